/-
  PART 6 OF THE PROOF (no conditions).
-/
import Derived.Test.YtoeibflkihlloaaGreatDoorCW5
set_option linter.unusedSectionVars false
set_option linter.unusedSimpArgs false
set_option linter.unusedVariables false
set_option linter.constructorNameAsVariable false
set_option linter.defProp false
noncomputable section
set_option maxRecDepth 100000
set_option maxHeartbeats 16000000
namespace Go.Am
open Sx Go.Proofs
def w18(c:ac):FB:=ku (f18 (BA ab aa (tblF [] c)))
def ok18:o_k 18 w18:=λhc=>iu (oz e18 i18 hc aN) rfl (by kernel_rfl) (by kernel_rfl)
def w5(c:ac):FB:=f5 (BA ab aa (tblF [(18,w18 c)] c))
def ok5:o_k 5 w5:=λhc=>oz e5 i5 hc (aC (ok18 hc) aN)
def w19(c:ac):FB:=memo (f19 (BA ab aa (tblF [] c)))
def ok19:o_k 19 w19:=λhc=>aL (oz e19 i19 hc aN) rfl (by kernel_rfl)
def w6(c:ac):FB:=f6 (BA ab aa (tblF [(19,w19 c)] c))
def ok6:o_k 6 w6:=λhc=>oz e6 i6 hc (aC (ok19 hc) aN)
def w57(c:ac):FB:=f57 (BA ab aa (tblF [] c))
def ok57:o_k 57 w57:=λhc=>oz e57 i57 hc aN
def w41(c:ac):FB:=f41 (BA ab aa (tblF [(57,w57 c)] c))
def ok41:o_k 41 w41:=λhc=>oz e41 i41 hc (aC (ok57 hc) aN)
def w29(c:ac):FB:=f29 (BA ab aa (tblF [(41,w41 c)] c))
def ok29:o_k 29 w29:=λhc=>oz e29 i29 hc (aC (ok41 hc) aN)
def w67(c:ac):FB:=memo (f67 (BA ab aa (tblF [] c)))
def ok67:o_k 67 w67:=λhc=>aL (oz e67 i67 hc aN) rfl (by kernel_rfl)
def w58(c:ac):FB:=memo (f58 (BA ab aa (tblF [(67,w67 c)] c)))
def ok58:o_k 58 w58:=λhc=>aL (oz e58 i58 hc (aC (ok67 hc) aN)) rfl (by kernel_rfl)
def w44(c:ac):FB:=f44 (BA ab aa (tblF [(58,w58 c)] c))
def ok44:o_k 44 w44:=λhc=>oz e44 i44 hc (aC (ok58 hc) aN)
def w30(c:ac):FB:=memo (f30 (BA ab aa (tblF [(44,w44 c)] c)))
def ok30:o_k 30 w30:=λhc=>aL (oz e30 i30 hc (aC (ok44 hc) aN)) rfl (by kernel_rfl)
def w13(c:ac):FB:=ku (f13 (BA ab aa (tblF [(29,w29 c),(30,w30 c)] c)))
def ok13:o_k 13 w13:=λhc=>iu (oz e13 i13 hc (aC (ok29 hc) (aC (ok30 hc) aN))) rfl (by kernel_rfl) (by kernel_rfl)
def w20(c:ac):FB:=f20 (BA ab aa (tblF [] c))
def ok20:o_k 20 w20:=λhc=>oz e20 i20 hc aN
def w16(c:ac):FB:=ku (f16 (BA ab aa (tblF [(13,w13 c),(20,w20 c)] c)))
def ok16:o_k 16 w16:=λhc=>iu (oz e16 i16 hc (aC (ok13 hc) (aC (ok20 hc) aN))) rfl (by kernel_rfl) (by kernel_rfl)
def w27(c:ac):FB:=memo (f27 (BA ab aa (tblF [] c)))
def ok27:o_k 27 w27:=λhc=>aL (oz e27 i27 hc aN) rfl (by kernel_rfl)
def w46(c:ac):FB:=f46 (BA ab aa (tblF [] c))
def ok46:o_k 46 w46:=λhc=>oz e46 i46 hc aN
def w34(c:ac):FB:=f34 (BA ab aa (tblF [(46,w46 c)] c))
def ok34:o_k 34 w34:=λhc=>oz e34 i34 hc (aC (ok46 hc) aN)
def w17(c:ac):FB:=ku (f17 (BA ab aa (tblF [(27,w27 c),(34,w34 c)] c)))
def ok17:o_k 17 w17:=λhc=>iu (oz e17 i17 hc (aC (ok27 hc) (aC (ok34 hc) aN))) rfl (by kernel_rfl) (by kernel_rfl)
def w23(c:ac):FB:=f23 (BA ab aa (tblF [] c))
def ok23:o_k 23 w23:=λhc=>oz e23 i23 hc aN
def w7(c:ac):FB:=f7 (BA ab aa (tblF [(16,w16 c),(17,w17 c),(20,w20 c),(23,w23 c)] c))
def ok7:o_k 7 w7:=λhc=>oz e7 i7 hc (aC (ok16 hc) (aC (ok17 hc) (aC (ok20 hc) (aC (ok23 hc) aN))))
def w9(c:ac):FB:=ku (f9 (BA ab aa (tblF [(17,w17 c),(27,w27 c)] c)))
def ok9:o_k 9 w9:=λhc=>iu (oz e9 i9 hc (aC (ok17 hc) (aC (ok27 hc) aN))) rfl (by kernel_rfl) (by kernel_rfl)
def w84(c:ac):FB:=memo (f84 (BA ab aa (tblF [] c)))
def ok84:o_k 84 w84:=λhc=>aL (oz e84 i84 hc aN) rfl (by kernel_rfl)
def w65(c:ac):FB:=memo (f65 (BA ab aa (tblF [(84,w84 c)] c)))
def ok65:o_k 65 w65:=λhc=>aL (oz e65 i65 hc (aC (ok84 hc) aN)) rfl (by kernel_rfl)
def w86(c:ac):FB:=f86 (BA ab aa (tblF [] c))
def ok86:o_k 86 w86:=λhc=>oz e86 i86 hc aN
def w115(c:ac):FB:=memo (f115 (BA ab aa (tblF [(65,w65 c)] c)))
def ok115:o_k 115 w115:=λhc=>aL (oz e115 i115 hc (aC (ok65 hc) aN)) rfl (by kernel_rfl)
def w116(c:ac):FB:=f116 (BA ab aa (tblF [] c))
def ok116:o_k 116 w116:=λhc=>oz e116 i116 hc aN
def w88(c:ac):FB:=f88 (BA ab aa (tblF [(115,w115 c),(116,w116 c)] c))
def ok88:o_k 88 w88:=λhc=>oz e88 i88 hc (aC (ok115 hc) (aC (ok116 hc) aN))
def w130(c:ac):FB:=f130 (BA ab aa (tblF [] c))
def ok130:o_k 130 w130:=λhc=>oz e130 i130 hc aN
def w121(c:ac):FB:=f121 (BA ab aa (tblF [(130,w130 c)] c))
def ok121:o_k 121 w121:=λhc=>oz e121 i121 hc (aC (ok130 hc) aN)
def w120(c:ac):FB:=f120 (BA ab aa (tblF [(121,w121 c)] c))
def ok120:o_k 120 w120:=λhc=>oz e120 i120 hc (aC (ok121 hc) aN)
def w89(c:ac):FB:=f89 (BA ab aa (tblF [(120,w120 c),(121,w121 c)] c))
def ok89:o_k 89 w89:=λhc=>oz e89 i89 hc (aC (ok120 hc) (aC (ok121 hc) aN))
def w90(c:ac):FB:=f90 (BA ab aa (tblF [] c))
def ok90:o_k 90 w90:=λhc=>oz e90 i90 hc aN
def w91(c:ac):FB:=f91 (BA ab aa (tblF [] c))
def ok91:o_k 91 w91:=λhc=>oz e91 i91 hc aN
def w92(c:ac):FB:=f92 (BA ab aa (tblF [] c))
def ok92:o_k 92 w92:=λhc=>oz e92 i92 hc aN
def w93(c:ac):FB:=f93 (BA ab aa (tblF [] c))
def ok93:o_k 93 w93:=λhc=>oz e93 i93 hc aN
def w68(c:ac):FB:=f68 (BA ab aa (tblF [(86,w86 c),(88,w88 c),(89,w89 c),(90,w90 c),(91,w91 c),(92,w92 c),(93,w93 c)] c))
def ok68:o_k 68 w68:=λhc=>oz e68 i68 hc (aC (ok86 hc) (aC (ok88 hc) (aC (ok89 hc) (aC (ok90 hc) (aC (ok91 hc) (aC (ok92 hc) (aC (ok93 hc) aN)))))))
def w59(c:ac):FB:=f59 (BA ab aa (tblF [(65,w65 c),(68,w68 c)] c))
def ok59:o_k 59 w59:=λhc=>oz e59 i59 hc (aC (ok65 hc) (aC (ok68 hc) aN))
def w61(c:ac):FB:=f61 (BA ab aa (tblF [] c))
def ok61:o_k 61 w61:=λhc=>oz e61 i61 hc aN
def w47(c:ac):FB:=f47 (BA ab aa (tblF [(9,w9 c),(59,w59 c),(61,w61 c)] c))
def ok47:o_k 47 w47:=λhc=>oz e47 i47 hc (aC (ok9 hc) (aC (ok59 hc) (aC (ok61 hc) aN)))
def w48(c:ac):FB:=memo (f48 (BA ab aa (tblF [] c)))
def ok48:o_k 48 w48:=λhc=>aL (oz e48 i48 hc aN) rfl (by kernel_rfl)
def w62(c:ac):FB:=memo (f62 (BA ab aa (tblF [] c)))
def ok62:o_k 62 w62:=λhc=>aL (oz e62 i62 hc aN) rfl (by kernel_rfl)
def w49(c:ac):FB:=memo (f49 (BA ab aa (tblF [(62,w62 c)] c)))
def ok49:o_k 49 w49:=λhc=>aL (oz e49 i49 hc (aC (ok62 hc) aN)) rfl (by kernel_rfl)
def w94(c:ac):FB:=memo (f94 (BA ab aa (tblF [] c)))
def ok94:o_k 94 w94:=λhc=>aL (oz e94 i94 hc aN) rfl (by kernel_rfl)
def w122(c:ac):FB:=f122 (BA ab aa (tblF [] c))
def ok122:o_k 122 w122:=λhc=>oz e122 i122 hc aN
def w95(c:ac):FB:=f95 (BA ab aa (tblF [(122,w122 c)] c))
def ok95:o_k 95 w95:=λhc=>oz e95 i95 hc (aC (ok122 hc) aN)
def w107(c:ac):FB:=memo (f107 (BA ab aa (tblF [] c)))
def ok107:o_k 107 w107:=λhc=>aL (oz e107 i107 hc aN) rfl (by kernel_rfl)
def w108(c:ac):FB:=memo (f108 (BA ab aa (tblF [] c)))
def ok108:o_k 108 w108:=λhc=>aL (oz e108 i108 hc aN) rfl (by kernel_rfl)
def w72(c:ac):FB:=memo (f72 (BA ab aa (tblF [(94,w94 c),(107,w107 c),(108,w108 c)] c)))
def ok72:o_k 72 w72:=λhc=>aL (oz e72 i72 hc (aC (ok94 hc) (aC (ok107 hc) (aC (ok108 hc) aN)))) rfl (by kernel_rfl)
def w43(c:ac):FB:=memo (f43 (BA ab aa (tblF [] c)))
def ok43:o_k 43 w43:=λhc=>aL (oz e43 i43 hc aN) rfl (by kernel_rfl)
def w125(c:ac):FB:=memo (f125 (BA ab aa (tblF [(43,w43 c)] c)))
def ok125:o_k 125 w125:=λhc=>aL (oz e125 i125 hc (aC (ok43 hc) aN)) rfl (by kernel_rfl)
def w126(c:ac):FB:=memo (f126 (BA ab aa (tblF [(43,w43 c),(94,w94 c)] c)))
def ok126:o_k 126 w126:=λhc=>aL (oz e126 i126 hc (aC (ok43 hc) (aC (ok94 hc) aN))) rfl (by kernel_rfl)
def w106(c:ac):FB:=memo (f106 (BA ab aa (tblF [(72,w72 c),(125,w125 c),(126,w126 c)] c)))
def ok106:o_k 106 w106:=λhc=>aL (oz e106 i106 hc (aC (ok72 hc) (aC (ok125 hc) (aC (ok126 hc) aN)))) rfl (by kernel_rfl)
def w98(c:ac):FB:=memo (f98 (BA ab aa (tblF [(106,w106 c)] c)))
def ok98:o_k 98 w98:=λhc=>aL (oz e98 i98 hc (aC (ok106 hc) aN)) rfl (by kernel_rfl)
def w99(c:ac):FB:=memo (f99 (BA ab aa (tblF [] c)))
def ok99:o_k 99 w99:=λhc=>aL (oz e99 i99 hc aN) rfl (by kernel_rfl)
def w100(c:ac):FB:=memo (f100 (BA ab aa (tblF [] c)))
def ok100:o_k 100 w100:=λhc=>aL (oz e100 i100 hc aN) rfl (by kernel_rfl)
def w69(c:ac):FB:=f69 (BA ab aa (tblF [(94,w94 c),(95,w95 c),(98,w98 c),(99,w99 c),(100,w100 c)] c))
def ok69:o_k 69 w69:=λhc=>oz e69 i69 hc (aC (ok94 hc) (aC (ok95 hc) (aC (ok98 hc) (aC (ok99 hc) (aC (ok100 hc) aN)))))
def w101(c:ac):FB:=memo (f101 (BA ab aa (tblF [] c)))
def ok101:o_k 101 w101:=λhc=>aL (oz e101 i101 hc aN) rfl (by kernel_rfl)
def w70(c:ac):FB:=memo (f70 (BA ab aa (tblF [(101,w101 c)] c)))
def ok70:o_k 70 w70:=λhc=>aL (oz e70 i70 hc (aC (ok101 hc) aN)) rfl (by kernel_rfl)
def w102(c:ac):FB:=f102 (BA ab aa (tblF [] c))
def ok102:o_k 102 w102:=λhc=>oz e102 i102 hc aN
def w103(c:ac):FB:=memo (f103 (BA ab aa (tblF [(94,w94 c)] c)))
def ok103:o_k 103 w103:=λhc=>aL (oz e103 i103 hc (aC (ok94 hc) aN)) rfl (by kernel_rfl)
def w71(c:ac):FB:=f71 (BA ab aa (tblF [(102,w102 c),(103,w103 c),(106,w106 c)] c))
def ok71:o_k 71 w71:=λhc=>oz e71 i71 hc (aC (ok102 hc) (aC (ok103 hc) (aC (ok106 hc) aN)))
def w109(c:ac):FB:=memo (f109 (BA ab aa (tblF [] c)))
def ok109:o_k 109 w109:=λhc=>aL (oz e109 i109 hc aN) rfl (by kernel_rfl)
def w110(c:ac):FB:=memo (f110 (BA ab aa (tblF [(70,w70 c)] c)))
def ok110:o_k 110 w110:=λhc=>aL (oz e110 i110 hc (aC (ok70 hc) aN)) rfl (by kernel_rfl)
def w111(c:ac):FB:=memo (f111 (BA ab aa (tblF [] c)))
def ok111:o_k 111 w111:=λhc=>aL (oz e111 i111 hc aN) rfl (by kernel_rfl)
def w112(c:ac):FB:=memo (f112 (BA ab aa (tblF [(109,w109 c)] c)))
def ok112:o_k 112 w112:=λhc=>aL (oz e112 i112 hc (aC (ok109 hc) aN)) rfl (by kernel_rfl)
def w73(c:ac):FB:=memo (f73 (BA ab aa (tblF [(70,w70 c),(109,w109 c),(110,w110 c),(111,w111 c),(112,w112 c)] c)))
def ok73:o_k 73 w73:=λhc=>aL (oz e73 i73 hc (aC (ok70 hc) (aC (ok109 hc) (aC (ok110 hc) (aC (ok111 hc) (aC (ok112 hc) aN)))))) rfl (by kernel_rfl)
def w127(c:ac):FB:=memo (f127 (BA ab aa (tblF [] c)))
def ok127:o_k 127 w127:=λhc=>aL (oz e127 i127 hc aN) rfl (by kernel_rfl)
def w131(c:ac):FB:=memo (f131 (BA ab aa (tblF [] c)))
def ok131:o_k 131 w131:=λhc=>aL (oz e131 i131 hc aN) rfl (by kernel_rfl)
def w128(c:ac):FB:=memo (f128 (BA ab aa (tblF [(70,w70 c),(109,w109 c),(131,w131 c)] c)))
def ok128:o_k 128 w128:=λhc=>aL (oz e128 i128 hc (aC (ok70 hc) (aC (ok109 hc) (aC (ok131 hc) aN)))) rfl (by kernel_rfl)
def w113(c:ac):FB:=memo (f113 (BA ab aa (tblF [(127,w127 c),(128,w128 c)] c)))
def ok113:o_k 113 w113:=λhc=>aL (oz e113 i113 hc (aC (ok127 hc) (aC (ok128 hc) aN))) rfl (by kernel_rfl)
def w74(c:ac):FB:=memo (f74 (BA ab aa (tblF [(43,w43 c),(70,w70 c),(113,w113 c)] c)))
def ok74:o_k 74 w74:=λhc=>aL (oz e74 i74 hc (aC (ok43 hc) (aC (ok70 hc) (aC (ok113 hc) aN)))) rfl (by kernel_rfl)
def w63(c:ac):FB:=f63 (BA ab aa (tblF [(69,w69 c),(70,w70 c),(71,w71 c),(72,w72 c),(73,w73 c),(74,w74 c)] c))
def ok63:o_k 63 w63:=λhc=>oz e63 i63 hc (aC (ok69 hc) (aC (ok70 hc) (aC (ok71 hc) (aC (ok72 hc) (aC (ok73 hc) (aC (ok74 hc) aN))))))
def w50(c:ac):FB:=f50 (BA ab aa (tblF [(63,w63 c)] c))
def ok50:o_k 50 w50:=λhc=>oz e50 i50 hc (aC (ok63 hc) aN)
def w36(c:ac):FB:=f36 (BA ab aa (tblF [(48,w48 c),(49,w49 c)] c))
def ok36:o_k 36 w36:=λhc=>oz e36 i36 hc (aC (ok48 hc) (aC (ok49 hc) aN))
def w51(c:ac):FB:=f51 (BA ab aa (tblF [] c))
def ok51:o_k 51 w51:=λhc=>oz e51 i51 hc aN
def w75(c:ac):FB:=f75 (BA ab aa (tblF [] c))
def ok75:o_k 75 w75:=λhc=>oz e75 i75 hc aN
def w77(c:ac):FB:=f77 (BA ab aa (tblF [(115,w115 c),(116,w116 c)] c))
def ok77:o_k 77 w77:=λhc=>oz e77 i77 hc (aC (ok115 hc) (aC (ok116 hc) aN))
def w129(c:ac):FB:=f129 (BA ab aa (tblF [] c))
def ok129:o_k 129 w129:=λhc=>oz e129 i129 hc aN
def w118(c:ac):FB:=f118 (BA ab aa (tblF [(129,w129 c)] c))
def ok118:o_k 118 w118:=λhc=>oz e118 i118 hc (aC (ok129 hc) aN)
def w117(c:ac):FB:=f117 (BA ab aa (tblF [(118,w118 c)] c))
def ok117:o_k 117 w117:=λhc=>oz e117 i117 hc (aC (ok118 hc) aN)
def w78(c:ac):FB:=f78 (BA ab aa (tblF [(117,w117 c),(118,w118 c)] c))
def ok78:o_k 78 w78:=λhc=>oz e78 i78 hc (aC (ok117 hc) (aC (ok118 hc) aN))
def w79(c:ac):FB:=f79 (BA ab aa (tblF [] c))
def ok79:o_k 79 w79:=λhc=>oz e79 i79 hc aN
def w80(c:ac):FB:=f80 (BA ab aa (tblF [] c))
def ok80:o_k 80 w80:=λhc=>oz e80 i80 hc aN
def w81(c:ac):FB:=f81 (BA ab aa (tblF [] c))
def ok81:o_k 81 w81:=λhc=>oz e81 i81 hc aN
def w82(c:ac):FB:=f82 (BA ab aa (tblF [] c))
def ok82:o_k 82 w82:=λhc=>oz e82 i82 hc aN
def w64(c:ac):FB:=f64 (BA ab aa (tblF [(75,w75 c),(77,w77 c),(78,w78 c),(79,w79 c),(80,w80 c),(81,w81 c),(82,w82 c)] c))
def ok64:o_k 64 w64:=λhc=>oz e64 i64 hc (aC (ok75 hc) (aC (ok77 hc) (aC (ok78 hc) (aC (ok79 hc) (aC (ok80 hc) (aC (ok81 hc) (aC (ok82 hc) aN)))))))
def w52(c:ac):FB:=f52 (BA ab aa (tblF [(64,w64 c),(65,w65 c)] c))
def ok52:o_k 52 w52:=λhc=>oz e52 i52 hc (aC (ok64 hc) (aC (ok65 hc) aN))
def w53(c:ac):FB:=f53 (BA ab aa (tblF [] c))
def ok53:o_k 53 w53:=λhc=>oz e53 i53 hc aN
def w54(c:ac):FB:=f54 (BA ab aa (tblF [] c))
def ok54:o_k 54 w54:=λhc=>oz e54 i54 hc aN
def w37(c:ac):FB:=f37 (BA ab aa (tblF [(29,w29 c),(51,w51 c),(52,w52 c),(53,w53 c),(54,w54 c)] c))
def ok37:o_k 37 w37:=λhc=>oz e37 i37 hc (aC (ok29 hc) (aC (ok51 hc) (aC (ok52 hc) (aC (ok53 hc) (aC (ok54 hc) aN)))))
def w24(c:ac):FB:=f24 (BA ab aa (tblF [] c))
def ok24:o_k 24 w24:=λhc=>oz e24 i24 hc aN
def w31(c:ac):FB:=ku (f31 (BA ab aa (tblF [] c)))
def ok31:o_k 31 w31:=λhc=>iu (oz e31 i31 hc aN) rfl (by kernel_rfl) (by kernel_rfl)
def w38(c:ac):FB:=f38 (BA ab aa (tblF [(31,w31 c)] c))
def ok38:o_k 38 w38:=λhc=>oz e38 i38 hc (aC (ok31 hc) aN)
def w25(c:ac):FB:=ku (f25 (BA ab aa (tblF [(38,w38 c)] c)))
def ok25:o_k 25 w25:=λhc=>iu (oz e25 i25 hc (aC (ok38 hc) aN)) rfl (by kernel_rfl) (by kernel_rfl)
def w39(c:ac):FB:=f39 (BA ab aa (tblF [] c))
def ok39:o_k 39 w39:=λhc=>oz e39 i39 hc aN
def w26(c:ac):FB:=f26 (BA ab aa (tblF [(39,w39 c)] c))
def ok26:o_k 26 w26:=λhc=>oz e26 i26 hc (aC (ok39 hc) aN)
def w8(c:ac):FB:=ku (f8 (BA ab aa (tblF [(16,w16 c),(25,w25 c),(26,w26 c)] c)))
def ok8:o_k 8 w8:=λhc=>iu (oz e8 i8 hc (aC (ok16 hc) (aC (ok25 hc) (aC (ok26 hc) aN)))) rfl (by kernel_rfl) (by kernel_rfl)
def w10(c:ac):FB:=ku (f10 (BA ab aa (tblF [(16,w16 c)] c)))
def ok10:o_k 10 w10:=λhc=>iu (oz e10 i10 hc (aC (ok16 hc) aN)) rfl (by kernel_rfl) (by kernel_rfl)
def w11(c:ac):FB:=f11 (BA ab aa (tblF [(18,w18 c)] c))
def ok11:o_k 11 w11:=λhc=>oz e11 i11 hc (aC (ok18 hc) aN)
def w22(c:ac):FB:=memo (f22 (BA ab aa (tblF [] c)))
def ok22:o_k 22 w22:=λhc=>aL (oz e22 i22 hc aN) rfl (by kernel_rfl)
def w45(c:ac):FB:=f45 (BA ab aa (tblF [] c))
def ok45:o_k 45 w45:=λhc=>oz e45 i45 hc aN
def w32(c:ac):FB:=f32 (BA ab aa (tblF [(45,w45 c)] c))
def ok32:o_k 32 w32:=λhc=>oz e32 i32 hc (aC (ok45 hc) aN)
def w15(c:ac):FB:=ku (f15 (BA ab aa (tblF [(22,w22 c),(25,w25 c),(31,w31 c),(32,w32 c)] c)))
def ok15:o_k 15 w15:=λhc=>iu (oz e15 i15 hc (aC (ok22 hc) (aC (ok25 hc) (aC (ok31 hc) (aC (ok32 hc) aN))))) rfl (by kernel_rfl) (by kernel_rfl)
def w28(c:ac):FB:=f28 (BA ab aa (tblF [(40,w40 c)] c))
def ok28:o_k 28 w28:=λhc=>oz e28 i28 hc (aC (ok40 hc) aN)
def w12(c:ac):FB:=memo (f12 (BA ab aa (tblF [(9,w9 c),(28,w28 c)] c)))
def ok12:o_k 12 w12:=λhc=>aL (oz e12 i12 hc (aC (ok9 hc) (aC (ok28 hc) aN))) rfl (by kernel_rfl)
def w3(c:ac):FB:=f3 (BA ab aa (tblF [(5,w5 c),(9,w9 c),(11,w11 c)] c))
def ok3:o_k 3 w3:=λhc=>oz e3 i3 hc (aC (ok5 hc) (aC (ok9 hc) (aC (ok11 hc) aN)))
def w21(c:ac):FB:=f21 (BA ab aa (tblF [(22,w22 c)] c))
def ok21:o_k 21 w21:=λhc=>oz e21 i21 hc (aC (ok22 hc) aN)
def w33(c:ac):FB:=f33 (BA ab aa (tblF [(22,w22 c)] c))
def ok33:o_k 33 w33:=λhc=>oz e33 i33 hc (aC (ok22 hc) aN)
def w35(c:ac):FB:=memo (f35 (BA ab aa (tblF [] c)))
def ok35:o_k 35 w35:=λhc=>aL (oz e35 i35 hc aN) rfl (by kernel_rfl)
def w42(c:ac):FB:=memo (f42 (BA ab aa (tblF [(43,w43 c)] c)))
def ok42:o_k 42 w42:=λhc=>aL (oz e42 i42 hc (aC (ok43 hc) aN)) rfl (by kernel_rfl)
def w60(c:ac):FB:=memo (f60 (BA ab aa (tblF [] c)))
def ok60:o_k 60 w60:=λhc=>aL (oz e60 i60 hc aN) rfl (by kernel_rfl)
def w97(c:ac):FB:=memo (f97 (BA ab aa (tblF [] c)))
def ok97:o_k 97 w97:=λhc=>aL (oz e97 i97 hc aN) rfl (by kernel_rfl)
def w96(c:ac):FB:=memo (f96 (BA ab aa (tblF [(97,w97 c)] c)))
def ok96:o_k 96 w96:=λhc=>aL (oz e96 i96 hc (aC (ok97 hc) aN)) rfl (by kernel_rfl)
def w123(c:ac):FB:=memo (f123 (BA ab aa (tblF [(94,w94 c),(98,w98 c),(108,w108 c)] c)))
def ok123:o_k 123 w123:=λhc=>aL (oz e123 i123 hc (aC (ok94 hc) (aC (ok98 hc) (aC (ok108 hc) aN)))) rfl (by kernel_rfl)
def w124(c:ac):FB:=memo (f124 (BA ab aa (tblF [(43,w43 c),(62,w62 c)] c)))
def ok124:o_k 124 w124:=λhc=>aL (oz e124 i124 hc (aC (ok43 hc) (aC (ok62 hc) aN))) rfl (by kernel_rfl)
def w105(c:ac):FB:=memo (f105 (BA ab aa (tblF [(123,w123 c),(124,w124 c)] c)))
def ok105:o_k 105 w105:=λhc=>aL (oz e105 i105 hc (aC (ok123 hc) (aC (ok124 hc) aN))) rfl (by kernel_rfl)
def w104(c:ac):FB:=f104 (BA ab aa (tblF [(49,w49 c),(73,w73 c),(98,w98 c),(105,w105 c)] c))
def ok104:o_k 104 w104:=λhc=>oz e104 i104 hc (aC (ok49 hc) (aC (ok73 hc) (aC (ok98 hc) (aC (ok105 hc) aN))))
def y_of{κ:Nat}{g:ac->Tl->Nat->FB}{ct:ac->ac}{c:ac}(h0:∀vs l ls h K,xa (BA ab aa (ct c)) (xc 0) ab drN (aa κ) vs l ls h K=g c vs l ls h K)(hc:Cok (ct c)):YOk cc ab aa κ (g c):=by
 intro vs l ls h K w st pd xs e hy hk
 rw[←h0]at hk
 obtain⟨b,h',a1,a3⟩:=execY_ok (X:=xc 0) (BA_ok (w:=w) hc) vi (jj e) rfl rfl rfl rfl hy hk
 exact⟨b,h',a1,a3⟩
def tabW(c:ac):Tr FB:=(.node nf (.node nf (.node (w3 c) (.node (w7 c) (.node (w15 c) (.node (w31 c) (.node (w63 c) (.node (w127 c) .leaf .leaf) .leaf) (.node (w95 c) .leaf .leaf)) (.node (w47 c) (.node (w79 c) .leaf .leaf) (.node (w111 c) .leaf .leaf))) (.node (w23 c) (.node (w39 c) (.node (w71 c) .leaf .leaf) (.node (w103 c) .leaf .leaf)) .leaf)) (.node (w11 c) (.node (w19 c) (.node (w35 c) (.node (w67 c) (.node (w131 c) .leaf .leaf) .leaf) (.node (w99 c) .leaf .leaf)) (.node (w51 c) .leaf (.node (w115 c) .leaf .leaf))) (.node (w27 c) (.node (w43 c) (.node (w75 c) .leaf .leaf) (.node (w107 c) .leaf .leaf)) (.node (w59 c) (.node (w91 c) .leaf .leaf) (.node (w123 c) .leaf .leaf))))) (.node (w5 c) (.node (w9 c) (.node (w17 c) (.node (w33 c) (.node (w65 c) (.node (w129 c) .leaf .leaf) .leaf) (.node (w97 c) .leaf .leaf)) (.node (w49 c) (.node (w81 c) .leaf .leaf) (.node (w113 c) .leaf .leaf))) (.node (w25 c) (.node (w41 c) (.node (w73 c) .leaf .leaf) (.node (w105 c) .leaf .leaf)) (.node (w57 c) (.node (w89 c) .leaf .leaf) (.node (w121 c) .leaf .leaf)))) (.node (w13 c) (.node (w21 c) (.node (w37 c) (.node (w69 c) .leaf .leaf) (.node (w101 c) .leaf .leaf)) (.node (w53 c) .leaf (.node (w117 c) .leaf .leaf))) (.node (w29 c) (.node (w45 c) (.node (w77 c) .leaf .leaf) (.node (w109 c) .leaf .leaf)) (.node (w61 c) (.node (w93 c) .leaf .leaf) (.node (w125 c) .leaf .leaf)))))) (.node nf (.node nf (.node (w8 c) (.node (w16 c) (.node (w32 c) (.node (w64 c) (.node (w128 c) .leaf .leaf) .leaf) (.node (w96 c) .leaf .leaf)) (.node (w48 c) (.node (w80 c) .leaf .leaf) (.node (w112 c) .leaf .leaf))) (.node (w24 c) (.node (w40 c) (.node (w72 c) .leaf .leaf) (.node (w104 c) .leaf .leaf)) (.node nf (.node (w88 c) .leaf .leaf) (.node (w120 c) .leaf .leaf)))) (.node (w12 c) (.node (w20 c) (.node (w36 c) (.node (w68 c) .leaf .leaf) (.node (w100 c) .leaf .leaf)) (.node (w52 c) (.node (w84 c) .leaf .leaf) (.node (w116 c) .leaf .leaf))) (.node (w28 c) (.node (w44 c) .leaf (.node (w108 c) .leaf .leaf)) (.node (w60 c) (.node (w92 c) .leaf .leaf) (.node (w124 c) .leaf .leaf))))) (.node (w6 c) (.node (w10 c) (.node (w18 c) (.node (w34 c) (.node nf (.node (w130 c) .leaf .leaf) .leaf) (.node (w98 c) .leaf .leaf)) (.node (w50 c) (.node (w82 c) .leaf .leaf) .leaf)) (.node (w26 c) (.node (w42 c) (.node (w74 c) .leaf .leaf) (.node (w106 c) .leaf .leaf)) (.node (w58 c) (.node (w90 c) .leaf .leaf) (.node (w122 c) .leaf .leaf)))) (.node nf (.node (w22 c) (.node (w38 c) (.node (w70 c) .leaf .leaf) (.node (w102 c) .leaf .leaf)) (.node (w54 c) (.node (w86 c) .leaf .leaf) (.node (w118 c) .leaf .leaf))) (.node (w30 c) (.node (w46 c) (.node (w78 c) .leaf .leaf) (.node (w110 c) .leaf .leaf)) (.node (w62 c) (.node (w94 c) .leaf .leaf) (.node (w126 c) .leaf .leaf)))))))
def stepF(c:ac):ac:=λck=>match ck with
 | .f f=>match Nat.blt f 132 with
  |true=>(bC f).get nf (tabW c)
  |false=>nf
 | .y κ vs l=>lookY [] κ (λvs l ls h K=>xa (BA ab aa c) (xc 0) ab drN (aa κ) vs l ls h K) vs l
def runF(n:Nat):ac:=Nat.rec (motive:=λ_=>ac) (λ_ _ _ _=>none) (λ_ c=>stepF c) n
def jF{k:Nat}(h1:(λc=>(bC k).get nf (tabW c))=λ_=>nf)(c:ac):Ent k ((bC k).get nf (tabW c)):=by
 intro ls h K w hls hk
 rw[congrFun h1 c]at hk
 cases hk
def aw{k:Nat}{g:ac->FB}(h1:(λc=>(bC k).get nf (tabW c))=g){c:ac}(h:Ent k (g c)):Ent k ((bC k).get nf (tabW c)):=by
 rw[congrFun h1 c];exact h
def tabW_ok{c:ac}(hc:Cok c):∀f,Nat.blt f 132=true->Ent f ((bC f).get nf (tabW c))
 |0,_=>jF (by kernel_rfl) c
 |1,_=>jF (by kernel_rfl) c
 |2,_=>jF (by kernel_rfl) c
 |3,_=>aw (g:=λc=>w3 c) (by kernel_rfl) (ok3 hc)
 |4,_=>jF (by kernel_rfl) c
 |5,_=>aw (g:=λc=>w5 c) (by kernel_rfl) (ok5 hc)
 |6,_=>aw (g:=λc=>w6 c) (by kernel_rfl) (ok6 hc)
 |7,_=>aw (g:=λc=>w7 c) (by kernel_rfl) (ok7 hc)
 |8,_=>aw (g:=λc=>w8 c) (by kernel_rfl) (ok8 hc)
 |9,_=>aw (g:=λc=>w9 c) (by kernel_rfl) (ok9 hc)
 |10,_=>aw (g:=λc=>w10 c) (by kernel_rfl) (ok10 hc)
 |11,_=>aw (g:=λc=>w11 c) (by kernel_rfl) (ok11 hc)
 |12,_=>aw (g:=λc=>w12 c) (by kernel_rfl) (ok12 hc)
 |13,_=>aw (g:=λc=>w13 c) (by kernel_rfl) (ok13 hc)
 |14,_=>jF (by kernel_rfl) c
 |15,_=>aw (g:=λc=>w15 c) (by kernel_rfl) (ok15 hc)
 |16,_=>aw (g:=λc=>w16 c) (by kernel_rfl) (ok16 hc)
 |17,_=>aw (g:=λc=>w17 c) (by kernel_rfl) (ok17 hc)
 |18,_=>aw (g:=λc=>w18 c) (by kernel_rfl) (ok18 hc)
 |19,_=>aw (g:=λc=>w19 c) (by kernel_rfl) (ok19 hc)
 |20,_=>aw (g:=λc=>w20 c) (by kernel_rfl) (ok20 hc)
 |21,_=>aw (g:=λc=>w21 c) (by kernel_rfl) (ok21 hc)
 |22,_=>aw (g:=λc=>w22 c) (by kernel_rfl) (ok22 hc)
 |23,_=>aw (g:=λc=>w23 c) (by kernel_rfl) (ok23 hc)
 |24,_=>aw (g:=λc=>w24 c) (by kernel_rfl) (ok24 hc)
 |25,_=>aw (g:=λc=>w25 c) (by kernel_rfl) (ok25 hc)
 |26,_=>aw (g:=λc=>w26 c) (by kernel_rfl) (ok26 hc)
 |27,_=>aw (g:=λc=>w27 c) (by kernel_rfl) (ok27 hc)
 |28,_=>aw (g:=λc=>w28 c) (by kernel_rfl) (ok28 hc)
 |29,_=>aw (g:=λc=>w29 c) (by kernel_rfl) (ok29 hc)
 |30,_=>aw (g:=λc=>w30 c) (by kernel_rfl) (ok30 hc)
 |31,_=>aw (g:=λc=>w31 c) (by kernel_rfl) (ok31 hc)
 |32,_=>aw (g:=λc=>w32 c) (by kernel_rfl) (ok32 hc)
 |33,_=>aw (g:=λc=>w33 c) (by kernel_rfl) (ok33 hc)
 |34,_=>aw (g:=λc=>w34 c) (by kernel_rfl) (ok34 hc)
 |35,_=>aw (g:=λc=>w35 c) (by kernel_rfl) (ok35 hc)
 |36,_=>aw (g:=λc=>w36 c) (by kernel_rfl) (ok36 hc)
 |37,_=>aw (g:=λc=>w37 c) (by kernel_rfl) (ok37 hc)
 |38,_=>aw (g:=λc=>w38 c) (by kernel_rfl) (ok38 hc)
 |39,_=>aw (g:=λc=>w39 c) (by kernel_rfl) (ok39 hc)
 |40,_=>aw (g:=λc=>w40 c) (by kernel_rfl) (ok40 hc)
 |41,_=>aw (g:=λc=>w41 c) (by kernel_rfl) (ok41 hc)
 |42,_=>aw (g:=λc=>w42 c) (by kernel_rfl) (ok42 hc)
 |43,_=>aw (g:=λc=>w43 c) (by kernel_rfl) (ok43 hc)
 |44,_=>aw (g:=λc=>w44 c) (by kernel_rfl) (ok44 hc)
 |45,_=>aw (g:=λc=>w45 c) (by kernel_rfl) (ok45 hc)
 |46,_=>aw (g:=λc=>w46 c) (by kernel_rfl) (ok46 hc)
 |47,_=>aw (g:=λc=>w47 c) (by kernel_rfl) (ok47 hc)
 |48,_=>aw (g:=λc=>w48 c) (by kernel_rfl) (ok48 hc)
 |49,_=>aw (g:=λc=>w49 c) (by kernel_rfl) (ok49 hc)
 |50,_=>aw (g:=λc=>w50 c) (by kernel_rfl) (ok50 hc)
 |51,_=>aw (g:=λc=>w51 c) (by kernel_rfl) (ok51 hc)
 |52,_=>aw (g:=λc=>w52 c) (by kernel_rfl) (ok52 hc)
 |53,_=>aw (g:=λc=>w53 c) (by kernel_rfl) (ok53 hc)
 |54,_=>aw (g:=λc=>w54 c) (by kernel_rfl) (ok54 hc)
 |55,_=>jF (by kernel_rfl) c
 |56,_=>jF (by kernel_rfl) c
 |57,_=>aw (g:=λc=>w57 c) (by kernel_rfl) (ok57 hc)
 |58,_=>aw (g:=λc=>w58 c) (by kernel_rfl) (ok58 hc)
 |59,_=>aw (g:=λc=>w59 c) (by kernel_rfl) (ok59 hc)
 |60,_=>aw (g:=λc=>w60 c) (by kernel_rfl) (ok60 hc)
 |61,_=>aw (g:=λc=>w61 c) (by kernel_rfl) (ok61 hc)
 |62,_=>aw (g:=λc=>w62 c) (by kernel_rfl) (ok62 hc)
 |63,_=>aw (g:=λc=>w63 c) (by kernel_rfl) (ok63 hc)
 |64,_=>aw (g:=λc=>w64 c) (by kernel_rfl) (ok64 hc)
 |65,_=>aw (g:=λc=>w65 c) (by kernel_rfl) (ok65 hc)
 |66,_=>jF (by kernel_rfl) c
 |67,_=>aw (g:=λc=>w67 c) (by kernel_rfl) (ok67 hc)
 |68,_=>aw (g:=λc=>w68 c) (by kernel_rfl) (ok68 hc)
 |69,_=>aw (g:=λc=>w69 c) (by kernel_rfl) (ok69 hc)
 |70,_=>aw (g:=λc=>w70 c) (by kernel_rfl) (ok70 hc)
 |71,_=>aw (g:=λc=>w71 c) (by kernel_rfl) (ok71 hc)
 |72,_=>aw (g:=λc=>w72 c) (by kernel_rfl) (ok72 hc)
 |73,_=>aw (g:=λc=>w73 c) (by kernel_rfl) (ok73 hc)
 |74,_=>aw (g:=λc=>w74 c) (by kernel_rfl) (ok74 hc)
 |75,_=>aw (g:=λc=>w75 c) (by kernel_rfl) (ok75 hc)
 |76,_=>jF (by kernel_rfl) c
 |77,_=>aw (g:=λc=>w77 c) (by kernel_rfl) (ok77 hc)
 |78,_=>aw (g:=λc=>w78 c) (by kernel_rfl) (ok78 hc)
 |79,_=>aw (g:=λc=>w79 c) (by kernel_rfl) (ok79 hc)
 |80,_=>aw (g:=λc=>w80 c) (by kernel_rfl) (ok80 hc)
 |81,_=>aw (g:=λc=>w81 c) (by kernel_rfl) (ok81 hc)
 |82,_=>aw (g:=λc=>w82 c) (by kernel_rfl) (ok82 hc)
 |83,_=>jF (by kernel_rfl) c
 |84,_=>aw (g:=λc=>w84 c) (by kernel_rfl) (ok84 hc)
 |85,_=>jF (by kernel_rfl) c
 |86,_=>aw (g:=λc=>w86 c) (by kernel_rfl) (ok86 hc)
 |87,_=>jF (by kernel_rfl) c
 |88,_=>aw (g:=λc=>w88 c) (by kernel_rfl) (ok88 hc)
 |89,_=>aw (g:=λc=>w89 c) (by kernel_rfl) (ok89 hc)
 |90,_=>aw (g:=λc=>w90 c) (by kernel_rfl) (ok90 hc)
 |91,_=>aw (g:=λc=>w91 c) (by kernel_rfl) (ok91 hc)
 |92,_=>aw (g:=λc=>w92 c) (by kernel_rfl) (ok92 hc)
 |93,_=>aw (g:=λc=>w93 c) (by kernel_rfl) (ok93 hc)
 |94,_=>aw (g:=λc=>w94 c) (by kernel_rfl) (ok94 hc)
 |95,_=>aw (g:=λc=>w95 c) (by kernel_rfl) (ok95 hc)
 |96,_=>aw (g:=λc=>w96 c) (by kernel_rfl) (ok96 hc)
 |97,_=>aw (g:=λc=>w97 c) (by kernel_rfl) (ok97 hc)
 |98,_=>aw (g:=λc=>w98 c) (by kernel_rfl) (ok98 hc)
 |99,_=>aw (g:=λc=>w99 c) (by kernel_rfl) (ok99 hc)
 |100,_=>aw (g:=λc=>w100 c) (by kernel_rfl) (ok100 hc)
 |101,_=>aw (g:=λc=>w101 c) (by kernel_rfl) (ok101 hc)
 |102,_=>aw (g:=λc=>w102 c) (by kernel_rfl) (ok102 hc)
 |103,_=>aw (g:=λc=>w103 c) (by kernel_rfl) (ok103 hc)
 |104,_=>aw (g:=λc=>w104 c) (by kernel_rfl) (ok104 hc)
 |105,_=>aw (g:=λc=>w105 c) (by kernel_rfl) (ok105 hc)
 |106,_=>aw (g:=λc=>w106 c) (by kernel_rfl) (ok106 hc)
 |107,_=>aw (g:=λc=>w107 c) (by kernel_rfl) (ok107 hc)
 |108,_=>aw (g:=λc=>w108 c) (by kernel_rfl) (ok108 hc)
 |109,_=>aw (g:=λc=>w109 c) (by kernel_rfl) (ok109 hc)
 |110,_=>aw (g:=λc=>w110 c) (by kernel_rfl) (ok110 hc)
 |111,_=>aw (g:=λc=>w111 c) (by kernel_rfl) (ok111 hc)
 |112,_=>aw (g:=λc=>w112 c) (by kernel_rfl) (ok112 hc)
 |113,_=>aw (g:=λc=>w113 c) (by kernel_rfl) (ok113 hc)
 |114,_=>jF (by kernel_rfl) c
 |115,_=>aw (g:=λc=>w115 c) (by kernel_rfl) (ok115 hc)
 |116,_=>aw (g:=λc=>w116 c) (by kernel_rfl) (ok116 hc)
 |117,_=>aw (g:=λc=>w117 c) (by kernel_rfl) (ok117 hc)
 |118,_=>aw (g:=λc=>w118 c) (by kernel_rfl) (ok118 hc)
 |119,_=>jF (by kernel_rfl) c
 |120,_=>aw (g:=λc=>w120 c) (by kernel_rfl) (ok120 hc)
 |121,_=>aw (g:=λc=>w121 c) (by kernel_rfl) (ok121 hc)
 |122,_=>aw (g:=λc=>w122 c) (by kernel_rfl) (ok122 hc)
 |123,_=>aw (g:=λc=>w123 c) (by kernel_rfl) (ok123 hc)
 |124,_=>aw (g:=λc=>w124 c) (by kernel_rfl) (ok124 hc)
 |125,_=>aw (g:=λc=>w125 c) (by kernel_rfl) (ok125 hc)
 |126,_=>aw (g:=λc=>w126 c) (by kernel_rfl) (ok126 hc)
 |127,_=>aw (g:=λc=>w127 c) (by kernel_rfl) (ok127 hc)
 |128,_=>aw (g:=λc=>w128 c) (by kernel_rfl) (ok128 hc)
 |129,_=>aw (g:=λc=>w129 c) (by kernel_rfl) (ok129 hc)
 |130,_=>aw (g:=λc=>w130 c) (by kernel_rfl) (ok130 hc)
 |131,_=>aw (g:=λc=>w131 c) (by kernel_rfl) (ok131 hc)
 |n+132,h=>by rw[qbc]at h;omega
def stepF_ok{c:ac}(hc:Cok c):Cok (stepF c):=by
 refine⟨λf ls h K w hls hk=>?_,λκ vs l ls h K w st pd xs e hy hk=>?_⟩
 ·have hk:(match Nat.blt f 132 with|true=>(bC f).get nf (tabW c)|false=>nf) ls h K=some w:=hk
  cases e:Nat.blt f 132 with
  |true=>rw[e]at hk;exact tabW_ok hc f e ls h K w hls hk
  |false=>rw[e]at hk;cases hk
 ·have hd:YOk cc ab aa κ (λvs l ls h K=>xa (BA ab aa c) (xc 0) ab drN (aa κ) vs l ls h K):=y_of (g:=λc vs l ls h K=>xa (BA ab aa c) (xc 0) ab drN (aa κ) vs l ls h K) (ct:=λc=>c) (λ_ _ _ _ _=>rfl) hc
  refine vE hd (l:=[]) (λp hp=>?_) vs l ls h K w st pd xs e hy hk
  cases hp
def gP:∀n,Cok (runF n)
 |0=>⟨λ_ _ _ _ _ _ h=>by(cases h),λ_ _ _ _ _ _ _ _ _ _ _ _ h=>by(cases h)⟩
 |n+1=>stepF_ok (gP n)
end Go.Am
namespace Go.Am
namespace Sx
section
variable [Val] [Kno]
def peekH(T:Tt)(f:Pk)(h:HL)(K:Te):Prop:=∃cs,f.run (getH T h)=some cs/\K cs
abbrev _root_.Ta:=List Value->HL->Prop
def heapH(T:Tt)(f:Hp)(h:HL)(K:Ta):Prop:=∃acts cs,f.run (getH T h) h.length=some (acts,cs)/\K cs (cB h acts)
abbrev _root_.Td:=List Lf->HL->Prop
def callH(C:Cfg)(Sg:Tc)(T:Tt)(g:TM)(ls:TD)(h:HL)(K:Td):Prop:=∃rs h',aK C Sg g ls (absH T h) rs (absH T h')/\K rs h'
def callvH(C:Cfg)(T:Tt)(v:Value)(args:Tl)(hs:TI)(h:HL)(K:Td):Prop:=∃rs h',tR C v args hs (absH T h) rs (absH T h')/\K rs h'
def itH(F:(TD->HL->Prop)->TD->HL->Prop)(n:Nat):TD->HL->Prop:=
 match n with
 |0=>λ_ _=>False
 |n+1=>F (itH F n)
def loopH(F:(TD->HL->Prop)->TD->HL->Prop)(ls:TD)(h:HL):Prop:=∃n,itH F n ls h
def rfunH(C:Cfg)(T:Tt)(κ:Nat)(v:Value)(vals:Tl)(h:HL)(K:Tk->HL->Prop):Prop:=
 ∃g first cap r H1 lp h2,v = .func (.func g) first cap/\
  ip C g (first.toList++[.func (.yield (absH T h).length) #[] #[]]++cap.toList) (absH T h++[.loop (lpOf (T κ) κ vals)]) r H1/\
  ed H1 (absH T h).length=some lp/\lp.state≠.busy/\absH T h2=H1.set (absH T h).length (.loop { lp with state:=.exhausted })/\K lp.pending h2
def lp1H(T:Tt)(l:Nat)(h:HL)(K:HL->Prop):Prop:=∃lp h',ed (absH T h) l=some lp/\lp.state = .ready/\absH T h'=(absH T h).set l (.loop { lp with state:=.busy })/\K h'
def lp2H(T:Tt)(l:Nat)(j:Tk)(h:HL)(K:HL->Prop):Prop:=∃lp h',ed (absH T h) l=some lp/\absH T h'=(absH T h).set l (.loop { lp with state:=if j.isNone then .ready else .done,pending:=j })/\K h'
def PH(C:Cfg)(Sg:Tc)(T:Tt):Alg Prop HL where
 fail:=False
 cond:=condP
 ari:=ariP
 shf:=λop k a k' b K=>∃n,ShRun op k a k' b n/\K n
 cmp:=cmpP
 eqs:=λl K=>K (cp l)
 conv:=λk a K=>K (k.wrap a)
 sel:=λt a b K=>K (if t then a else b)
 opt:=optP
 chk:=λv K=>aW v=true/\K
 unI:=unIP
 unB:=unBP
 unV:=unVP
 un0:=un0P
 ucI:=ucIP
 ucB:=ucBP
 ucV:=ucVP
 uc0:=uc0P
 peek:=peekH T
 heap:=heapH T
 new:=λo h K=>K h.length (h++[.o o])
 call:=callH C Sg T
 callv:=callvH C T
 join:=λb m=>m b
 loop:=loopH
 rfun:=rfunH C T
 pend:=pendP
 lp1:=lp1H T
 lp2:=lp2H T
def PH_ok(C:Cfg)(Sg:Tc)(T:Tt):AlgOk (PH C Sg T) C Sg T id (absH T) where
 fail:=(fA C Sg T).fail
 cond:=(fA C Sg T).cond
 ari:=(fA C Sg T).ari
 shf:=(fA C Sg T).shf
 cmp:=(fA C Sg T).cmp
 eqs:=(fA C Sg T).eqs
 conv:=(fA C Sg T).conv
 sel:=(fA C Sg T).sel
 opt:=(fA C Sg T).opt
 chk:=(fA C Sg T).chk
 unI:=(fA C Sg T).unI
 unB:=(fA C Sg T).unB
 unV:=(fA C Sg T).unV
 un0:=(fA C Sg T).un0
 ucI:=(fA C Sg T).ucI
 ucB:=(fA C Sg T).ucB
 ucV:=(fA C Sg T).ucV
 uc0:=(fA C Sg T).uc0
 peek:=by
  intro f h K hk
  obtain⟨cs,h1,h2⟩:=hk
  exact⟨cs,by rw[←jX];exact h1,h2⟩
 heap:=by
  intro f h K hk
  obtain⟨acts,cs,h1,h2⟩:=hk
  exact⟨acts,cs,_,by rw[←jX,dt];exact h1,jN T acts h,h2⟩
 new:=λo h K hk=>⟨_,gg T h _,by rw[dt];exact hk⟩
 call:=λg ls h K hk=>hk
 callv:=λv args hs h K hk=>hk
 join:=λb m h=>h
 loop:=by
  intro F ls h hk
  obtain⟨n,hk⟩:=hk
  exact⟨itH F,λls h=>(id:False->False),λn ls h=>rfl,n,hk⟩
 rfun:=λκ v vals h K hk=>hk
 pend:=(fA C Sg T).pend
 lp1:=λl h K hk=>hk
 lp2:=λl j h K hk=>hk
section
variable {C:Cfg} {Sg:Tc} {T:Tt} {call:ac} (hc:CallBOk C Sg T call)
include hc
inductive SL2:List (Nat×RT)->List (Nat×Prop)->Prop
 |nil:SL2 [] []
 |cons {id:Nat} {x:RT} {x':Prop} {l:List (Nat×RT)} {l':List (Nat×Prop)} (hx:x=yes->x') (hl:SL2 l l'):SL2 ((id,x) :: l) ((id,x') :: l')
omit hc in
theorem SL2.mem{l:List (Nat×RT)}{l':List (Nat×Prop)}(h:SL2 l l'){id:Nat}{x:RT}(hm:(id,x)∈l)(hx:x=yes):∃y,(id,y)∈l'/\y:=by
 induction h with
 |nil=>cases hm
 |cons h1 h2 ih=>
  rcases qal.1 hm with e|hm
  ·cases e;exact⟨_,qaB,h1 hx⟩
  ·obtain⟨y,a,b⟩:=ih hm
   exact⟨y,qan _ a,b⟩
end
def vy{F:(TD->HL->Prop)->TD->HL->Prop}(Inv:Nat->TD->HL->Prop)
  (step:∀m ls h,Inv m ls h->∀self:TD->HL->Prop,(∀m' ls h,m'<m->Inv m' ls h->self ls h)->F self ls h):∀n m ls h,m<n->Inv m ls h->itH F n ls h
 |0,_,_,_,hm,_=>absurd hm (Nat.not_lt_zero _)
 |n+1,m,ls,h,hm,hi=>step m ls h hi (itH F n) λm' ls h h' hi'=>vy Inv step n m' ls h (by omega) hi'
def gZ{F:(TD->HL->Prop)->TD->HL->Prop}(Inv:Nat->TD->HL->Prop){m:Nat}{ls:TD}{h:HL}(hi:Inv m ls h)
  (step:∀m ls h,Inv m ls h->∀self:TD->HL->Prop,(∀m' ls h,m'<m->Inv m' ls h->self ls h)->F self ls h):loopH F ls h:=
 ⟨m+1,vy Inv step (m+1) m ls h (Nat.lt_succ_self m) hi⟩
end
end Sx
namespace Sx
class Bx (α:Sort _) where
 v:α
def hid{α:Sort _} [b:Bx α]:α:=b.v
section
variable [Val] [Kno] {C:Cfg} {Sg:Tc} {T:Tt}
def b_unI{n:Int}{r:TD}{K:Int->TD->Prop}:(PH C Sg T).unI (.i n :: r) K=K n r:=rfl
def b_unB{n:Bool}{r:TD}{K:Bool->TD->Prop}:(PH C Sg T).unB (.b n :: r) K=K n r:=rfl
def b_unV{n:Value}{r:TD}{K:Value->TD->Prop}:(PH C Sg T).unV (.v n :: r) K=K n r:=rfl
def b_un0{K:Prop}:(PH C Sg T).un0 [] K=K:=rfl
def b_ucI{k:TH}{n:Int}{r:Tl}{K:Int->Tl->Prop}:(PH C Sg T).ucI k (.int k n :: r) K=K n r:=by
 show(k=k/\K n r)=K n r
 simp
def b_ucB{n:Bool}{r:Tl}{K:Bool->Tl->Prop}:(PH C Sg T).ucB (.bool n :: r) K=K n r:=rfl
def b_ucV{n:Value}{r:Tl}{K:Value->Tl->Prop}:(PH C Sg T).ucV (n :: r) K=K n r:=rfl
def b_uc0{K:Prop}:(PH C Sg T).uc0 [] K=K:=rfl
def b_cond_t{X Y:Prop}:(PH C Sg T).cond true X Y=X:=by
 show((true=true->X)/\(true=false->Y))=X
 simp
def b_cond_f{X Y:Prop}:(PH C Sg T).cond false X Y=Y:=by
 show((false=true->X)/\(false=false->Y))=Y
 simp
def b_lss_t{a b:Int}{K:To}(h:a<b):(PH C Sg T).cmp .lss a b K=K true:=by
 show K (decide (a<b))=_;rw[qdx h]
def b_lss_f{a b:Int}{K:To}(h:b<=a):(PH C Sg T).cmp .lss a b K=K false:=by
 show K (decide (a<b))=_;rw[qdw (by omega)]
def b_leq_t{a b:Int}{K:To}(h:a<=b):(PH C Sg T).cmp .leq a b K=K true:=by
 show K (decide (a<=b))=_;rw[qdx h]
def b_leq_f{a b:Int}{K:To}(h:b<a):(PH C Sg T).cmp .leq a b K=K false:=by
 show K (decide (a<=b))=_;rw[qdw (by omega)]
def b_gtr_t{a b:Int}{K:To}(h:b<a):(PH C Sg T).cmp .gtr a b K=K true:=by
 show K (decide (a > b))=_;rw[qdx h]
def b_gtr_f{a b:Int}{K:To}(h:a<=b):(PH C Sg T).cmp .gtr a b K=K false:=by
 show K (decide (a > b))=_;rw[qdw (by omega)]
def b_geq_t{a b:Int}{K:To}(h:b<=a):(PH C Sg T).cmp .geq a b K=K true:=by
 show K (decide (a ≥ b))=_;rw[qdx h]
def b_geq_f{a b:Int}{K:To}(h:a<b):(PH C Sg T).cmp .geq a b K=K false:=by
 show K (decide (a ≥ b))=_;rw[qdw (by omega)]
def b_eql_t{a b:Int}{K:To}(h:a=b):(PH C Sg T).cmp .eql a b K=K true:=by
 show K (a==b)=_;rw[beq_iff_eq.2 h]
def b_eql_f{a b:Int}{K:To}(h:a≠b):(PH C Sg T).cmp .eql a b K=K false:=by
 show K (a==b)=_;rw[beq_false_of_ne h]
def b_neq_t{a b:Int}{K:To}(h:a≠b):(PH C Sg T).cmp .neq a b K=K true:=by
 show K (a != b)=_;rw[bne_iff_ne.2 h]
def b_neq_f{a b:Int}{K:To}(h:a=b):(PH C Sg T).cmp .neq a b K=K false:=by
 show K (a != b)=_;subst h;simp
def b_add{a b:Int}{K:Tu}(h1:-9223372036854775808<=a+b)(h2:a+b<=9223372036854775807):(PH C Sg T).ari .add .i64 a b K=K (a+b):=by
 show K (IntKind.wrap .i64 (a+b))=_;rw[cS h1 h2]
def b_sub{a b:Int}{K:Tu}(h1:-9223372036854775808<=a - b)(h2:a - b<=9223372036854775807):(PH C Sg T).ari .sub .i64 a b K=K (a - b):=by
 show K (IntKind.wrap .i64 (a - b))=_;rw[cS h1 h2]
def b_mul{a b:Int}{K:Tu}(h1:-9223372036854775808<=a*b)(h2:a*b<=9223372036854775807):(PH C Sg T).ari .mul .i64 a b K=K (a*b):=by
 show K (IntKind.wrap .i64 (a*b))=_;rw[cS h1 h2]
def b_add8{a b:Int}{K:Tu}(h1:0<=a+b)(h2:a+b<=255):(PH C Sg T).ari .add .u8 a b K=K (a+b):=by
 show K (IntKind.wrap .u8 (a+b))=_;rw[rK h1 h2]
def b_sub8{a b:Int}{K:Tu}(h1:0<=a - b)(h2:a - b<=255):(PH C Sg T).ari .sub .u8 a b K=K (a - b):=by
 show K (IntKind.wrap .u8 (a - b))=_;rw[rK h1 h2]
def b_mul8{a b:Int}{K:Tu}(h1:0<=a*b)(h2:a*b<=255):(PH C Sg T).ari .mul .u8 a b K=K (a*b):=by
 show K (IntKind.wrap .u8 (a*b))=_;rw[rK h1 h2]
def tdiv_nn{a b:Int}(h:0<=a):a.tdiv b=a / b:=Int.tdiv_eq_ediv_of_nonneg h
def b_quo_nn{a b:Int}{K:Tu}(h:0<=a)(hb:0<b)(h2:a<=9223372036854775807):(PH C Sg T).ari .quo .i64 a b K=K (a / b):=by
 show(b≠0/\K (IntKind.wrap .i64 (a.tdiv b)))=_
 have h3:a / b<=a:=Int.ediv_le_self b h
 have h4:0<=a / b:=Int.ediv_nonneg h (by omega)
 rw[tdiv_nn h,cS (by omega) (by omega)]
 simp;intro _ h;omega
def b_quo_dv{a b:Int}{K:Tu}(h:a%b=0)(hb:0<b)(h1:-9223372036854775808<=a)(h2:a<=9223372036854775807):(PH C Sg T).ari .quo .i64 a b K=K (a / b):=by
 show(b≠0/\K (IntKind.wrap .i64 (a.tdiv b)))=_
 obtain⟨q,rfl⟩:=Int.dvd_of_emod_eq_zero h
 rw[Int.mul_tdiv_cancel_left q (by omega),Int.mul_ediv_cancel_left q (by omega)]
 have hq:-9223372036854775808<=q/\q<=9223372036854775807:=by
  rcases Int.le_total 0 q with hs|hs
  ·have:=qch (show(1:Int)<=b by omega) hs
   omega
  ·have:=qch (show(1:Int)<=b by omega) (show 0<=-q by omega)
   rw[Int.mul_neg b q]at this
   omega
 rw[cS hq.1 hq.2]
 simp;intro _ h;omega
def b_rem_nn{k:TH}{a b:Int}{K:Tu}(h:0<=a)(hb:0<b):(PH C Sg T).ari .rem k a b K=K (a%b):=by
 show(b≠0/\K (a.tmod b))=_
 rw[qc7 h]
 simp;intro _ h;omega
def b_rem_np{k:TH}{a b:Int}{K:Tu}(h:a<=0)(hb:0<b):(PH C Sg T).ari .rem k a b K=K (-((-a)%b)):=by
 show(b≠0/\K (a.tmod b))=_
 have:a.tmod b = -((-a)%b):=by
  have h1:=Int.neg_tmod a b
  rw[qc7 (a:=-a) (by omega)]at h1
  omega
 rw[this]
 simp;intro _ h;omega
def b_and1{a:Int}{K:Tu}:(PH C Sg T).ari .and .i64 a 1 K=K (a%2):=by
 show(((1:Int)=1/\K (a%2))∨((1:Int)≠1/\∃n,pR .and .i64 a 1 n/\K n))=K (a%2)
 simp
def b_conv{a:Int}{K:Tu}(h1:-9223372036854775808<=a)(h2:a<=9223372036854775807):(PH C Sg T).conv .i64 a K=K a:=by
 show K (IntKind.wrap .i64 a)=_;rw[cS h1 h2]
def b_conv8{a:Int}{K:Tu}(h1:0<=a)(h2:a<=255):(PH C Sg T).conv .u8 a K=K a:=by
 show K (IntKind.wrap .u8 a)=_;rw[rK h1 h2]
def b_sel_t{a b:Int}{K:Tu}:(PH C Sg T).sel true a b K=K a:=rfl
def b_sel_f{a b:Int}{K:Tu}:(PH C Sg T).sel false a b K=K b:=rfl
def b_opt{α:Type}{x:α}{K:α->Prop}:(PH C Sg T).opt (some x) K=K x:=by
 show(∃y,some x=some y/\K y)=K x
 simp
def b_inB{n:Nat}{i:Int}{K:Unit->Prop}(h1:0<=i)(h2:i<(n:Int)):(PH C Sg T).opt (inB n i) K=K ():=by
 rw[show inB n i=some ()from(inB_eq n i).trans (qdy ⟨h1,h2⟩),b_opt]
def b_join{b:Td}{m:(TD->HL->Prop)->Prop}:(PH C Sg T).join b m=m b:=rfl
def b_eqs0{K:To}:(PH C Sg T).eqs [] K=K true:=rfl
def b_eqs_t{a b:Int}{l:List (Lf×Lf)}{K:To}(h:a=b):(PH C Sg T).eqs ((.i a,.i b) :: l) K=(PH C Sg T).eqs l K:=by
 show K (cp _)=K (cp l)
 subst h
 simp[cp,gA]
def b_eqs_f{a b:Int}{l:List (Lf×Lf)}{K:To}(h:a≠b):(PH C Sg T).eqs ((.i a,.i b) :: l) K=K false:=by
 show K (cp _)=K false
 have:(a==b)=false:=beq_false_of_ne h
 simp[cp,gA,this]
def p_loop{F:(TD->HL->Prop)->TD->HL->Prop}{ls:TD}{h:HL}(n:Nat)(hn:itH F n ls h):(PH C Sg T).loop F ls h:=⟨n,hn⟩
def b_it{F:(TD->HL->Prop)->TD->HL->Prop}{n:Nat}{ls:TD}{h:HL}:itH F (n+1) ls h=F (itH F n) ls h:=rfl
def ae{g:TM}{ls rs:TD}{h:HL}{K:Td}(hc:∀H,aK C Sg g ls H rs H)(hk:K rs h):(PH C Sg T).call g ls h (@hid _ ⟨K⟩):=⟨rs,h,hc _,hk⟩
def b_eqsb_t{a b:Bool}{l:List (Lf×Lf)}{K:To}(h:a=b):(PH C Sg T).eqs ((.b a,.b b) :: l) K=(PH C Sg T).eqs l K:=by
 show K (cp _)=K (cp l)
 subst h
 simp[cp,gA]
def b_eqsb_tf{l:List (Lf×Lf)}{K:To}:(PH C Sg T).eqs ((.b true,.b false) :: l) K=K false:=rfl
def b_eqsb_ft{l:List (Lf×Lf)}{K:To}:(PH C Sg T).eqs ((.b false,.b true) :: l) K=K false:=rfl
def b_mul_1{b:Int}{K:Tu}(h1:-9223372036854775808<=b)(h2:b<=9223372036854775807):(PH C Sg T).ari .mul .i64 1 b K=K b:=by
 show K (IntKind.wrap .i64 (1*b))=_;rw[Int.one_mul,cS h1 h2]
def b_mul_0{b:Int}{K:Tu}:(PH C Sg T).ari .mul .i64 0 b K=K 0:=by
 show K (IntKind.wrap .i64 (0*b))=_;rw[Int.zero_mul];rfl
def b_mul_m{b:Int}{K:Tu}(h1:-9223372036854775808<=-b)(h2:-b<=9223372036854775807):(PH C Sg T).ari .mul .i64 (-1) b K=K (-b):=by
 show K (IntKind.wrap .i64 (-1*b))=_
 have:(-1*b:Int) = -b:=by omega
 rw[this,cS h1 h2]
def b_mul_r1{b:Int}{K:Tu}(h1:-9223372036854775808<=b)(h2:b<=9223372036854775807):(PH C Sg T).ari .mul .i64 b 1 K=K b:=by
 show K (IntKind.wrap .i64 (b*1))=_;rw[Int.mul_one,cS h1 h2]
def b_mul_r0{b:Int}{K:Tu}:(PH C Sg T).ari .mul .i64 b 0 K=K 0:=by
 show K (IntKind.wrap .i64 (b*0))=_;rw[Int.mul_zero];rfl
def b_mul_rm{b:Int}{K:Tu}(h1:-9223372036854775808<=-b)(h2:-b<=9223372036854775807):(PH C Sg T).ari .mul .i64 b (-1) K=K (-b):=by
 show K (IntKind.wrap .i64 (b * -1))=_
 have:(b * -1:Int) = -b:=by omega
 rw[this,cS h1 h2]
def b_add_0{b:Int}{K:Tu}(h1:-9223372036854775808<=b)(h2:b<=9223372036854775807):(PH C Sg T).ari .add .i64 0 b K=K b:=by
 show K (IntKind.wrap .i64 (0+b))=_;rw[qdo,cS h1 h2]
def b_add_r0{b:Int}{K:Tu}(h1:-9223372036854775808<=b)(h2:b<=9223372036854775807):(PH C Sg T).ari .add .i64 b 0 K=K b:=by
 show K (IntKind.wrap .i64 (b+0))=_;rw[Int.add_zero,cS h1 h2]
def b_add_11{K:Tu}:(PH C Sg T).ari .add .i64 1 1 K=K 2:=by
 show K (IntKind.wrap .i64 (1+1))=_;rfl
def b_quo_1{a:Int}{K:Tu}(h1:-9223372036854775808<=a)(h2:a<=9223372036854775807):(PH C Sg T).ari .quo .i64 a 1 K=K a:=by
 show((1:Int)≠0/\K (IntKind.wrap .i64 (a.tdiv 1)))=_
 rw[Int.tdiv_one,cS h1 h2];simp
def af{α:Type}{o:Option α}{x:α}{K:α->Prop}(h:o=some x)(hk:K x):(PH C Sg T).opt o (@hid _ ⟨K⟩):=⟨x,h,hk⟩
theorem p_unI{n:Int}{r:TD}{K:Int->TD->Prop}:(PH C Sg T).unI (.i n :: r) (@hid _ ⟨K⟩)=K n r:=b_unI
theorem p_unB{n:Bool}{r:TD}{K:Bool->TD->Prop}:(PH C Sg T).unB (.b n :: r) (@hid _ ⟨K⟩)=K n r:=b_unB
theorem p_unV{n:Value}{r:TD}{K:Value->TD->Prop}:(PH C Sg T).unV (.v n :: r) (@hid _ ⟨K⟩)=K n r:=b_unV
theorem p_un0{K:Prop}:(PH C Sg T).un0 [] (@hid _ ⟨K⟩)=K:=b_un0
theorem p_ucI{k:TH}{n:Int}{r:Tl}{K:Int->Tl->Prop}:(PH C Sg T).ucI k (.int k n :: r) (@hid _ ⟨K⟩)=K n r:=b_ucI
theorem p_ucB{n:Bool}{r:Tl}{K:Bool->Tl->Prop}:(PH C Sg T).ucB (.bool n :: r) (@hid _ ⟨K⟩)=K n r:=b_ucB
theorem p_ucV{n:Value}{r:Tl}{K:Value->Tl->Prop}:(PH C Sg T).ucV (n :: r) (@hid _ ⟨K⟩)=K n r:=b_ucV
theorem p_uc0{K:Prop}:(PH C Sg T).uc0 [] (@hid _ ⟨K⟩)=K:=b_uc0
theorem p_cond_t{X Y:Prop}:(PH C Sg T).cond true (@hid _ ⟨X⟩) Y=X:=b_cond_t
theorem p_cond_f{X Y:Prop}:(PH C Sg T).cond false X (@hid _ ⟨Y⟩)=Y:=b_cond_f
theorem p_lss_t{a b:Int}{K:To}(h:a<b):(PH C Sg T).cmp .lss a b (@hid _ ⟨K⟩)=K true:=b_lss_t h
theorem p_lss_f{a b:Int}{K:To}(h:b<=a):(PH C Sg T).cmp .lss a b (@hid _ ⟨K⟩)=K false:=b_lss_f h
theorem p_leq_t{a b:Int}{K:To}(h:a<=b):(PH C Sg T).cmp .leq a b (@hid _ ⟨K⟩)=K true:=b_leq_t h
theorem p_leq_f{a b:Int}{K:To}(h:b<a):(PH C Sg T).cmp .leq a b (@hid _ ⟨K⟩)=K false:=b_leq_f h
theorem p_gtr_t{a b:Int}{K:To}(h:b<a):(PH C Sg T).cmp .gtr a b (@hid _ ⟨K⟩)=K true:=b_gtr_t h
theorem p_gtr_f{a b:Int}{K:To}(h:a<=b):(PH C Sg T).cmp .gtr a b (@hid _ ⟨K⟩)=K false:=b_gtr_f h
theorem p_geq_t{a b:Int}{K:To}(h:b<=a):(PH C Sg T).cmp .geq a b (@hid _ ⟨K⟩)=K true:=b_geq_t h
theorem p_geq_f{a b:Int}{K:To}(h:a<b):(PH C Sg T).cmp .geq a b (@hid _ ⟨K⟩)=K false:=b_geq_f h
theorem p_eql_t{a b:Int}{K:To}(h:a=b):(PH C Sg T).cmp .eql a b (@hid _ ⟨K⟩)=K true:=b_eql_t h
theorem p_eql_f{a b:Int}{K:To}(h:a≠b):(PH C Sg T).cmp .eql a b (@hid _ ⟨K⟩)=K false:=b_eql_f h
theorem p_neq_t{a b:Int}{K:To}(h:a≠b):(PH C Sg T).cmp .neq a b (@hid _ ⟨K⟩)=K true:=b_neq_t h
theorem p_neq_f{a b:Int}{K:To}(h:a=b):(PH C Sg T).cmp .neq a b (@hid _ ⟨K⟩)=K false:=b_neq_f h
theorem p_add{a b:Int}{K:Tu}(h1:-9223372036854775808<=a+b)(h2:a+b<=9223372036854775807):(PH C Sg T).ari .add .i64 a b (@hid _ ⟨K⟩)=K (a+b):=b_add h1 h2
theorem p_sub{a b:Int}{K:Tu}(h1:-9223372036854775808<=a - b)(h2:a - b<=9223372036854775807):(PH C Sg T).ari .sub .i64 a b (@hid _ ⟨K⟩)=K (a - b):=b_sub h1 h2
theorem p_mul{a b:Int}{K:Tu}(h1:-9223372036854775808<=a*b)(h2:a*b<=9223372036854775807):(PH C Sg T).ari .mul .i64 a b (@hid _ ⟨K⟩)=K (a*b):=b_mul h1 h2
theorem p_add8{a b:Int}{K:Tu}(h1:0<=a+b)(h2:a+b<=255):(PH C Sg T).ari .add .u8 a b (@hid _ ⟨K⟩)=K (a+b):=b_add8 h1 h2
theorem p_sub8{a b:Int}{K:Tu}(h1:0<=a - b)(h2:a - b<=255):(PH C Sg T).ari .sub .u8 a b (@hid _ ⟨K⟩)=K (a - b):=b_sub8 h1 h2
theorem p_mul8{a b:Int}{K:Tu}(h1:0<=a*b)(h2:a*b<=255):(PH C Sg T).ari .mul .u8 a b (@hid _ ⟨K⟩)=K (a*b):=b_mul8 h1 h2
theorem p_quo_nn{a b:Int}{K:Tu}(h:0<=a)(hb:0<b)(h2:a<=9223372036854775807):(PH C Sg T).ari .quo .i64 a b (@hid _ ⟨K⟩)=K (a / b):=b_quo_nn h hb h2
theorem p_quo_dv{a b:Int}{K:Tu}(h:a%b=0)(hb:0<b)(h1:-9223372036854775808<=a)(h2:a<=9223372036854775807):(PH C Sg T).ari .quo .i64 a b (@hid _ ⟨K⟩)=K (a / b):=b_quo_dv h hb h1 h2
theorem p_rem_nn{k:TH}{a b:Int}{K:Tu}(h:0<=a)(hb:0<b):(PH C Sg T).ari .rem k a b (@hid _ ⟨K⟩)=K (a%b):=b_rem_nn h hb
theorem p_rem_np{k:TH}{a b:Int}{K:Tu}(h:a<=0)(hb:0<b):(PH C Sg T).ari .rem k a b (@hid _ ⟨K⟩)=K (-((-a)%b)):=b_rem_np h hb
theorem p_and1{a:Int}{K:Tu}:(PH C Sg T).ari .and .i64 a 1 (@hid _ ⟨K⟩)=K (a%2):=b_and1
theorem p_conv{a:Int}{K:Tu}(h1:-9223372036854775808<=a)(h2:a<=9223372036854775807):(PH C Sg T).conv .i64 a (@hid _ ⟨K⟩)=K a:=b_conv h1 h2
theorem p_conv8{a:Int}{K:Tu}(h1:0<=a)(h2:a<=255):(PH C Sg T).conv .u8 a (@hid _ ⟨K⟩)=K a:=b_conv8 h1 h2
theorem p_sel_t{a b:Int}{K:Tu}:(PH C Sg T).sel true a b (@hid _ ⟨K⟩)=K a:=b_sel_t
theorem p_sel_f{a b:Int}{K:Tu}:(PH C Sg T).sel false a b (@hid _ ⟨K⟩)=K b:=b_sel_f
theorem p_opt{α:Type}{x:α}{K:α->Prop}:(PH C Sg T).opt (some x) (@hid _ ⟨K⟩)=K x:=b_opt
theorem p_inB{n:Nat}{i:Int}{K:Unit->Prop}(h1:0<=i)(h2:i<(n:Int)):(PH C Sg T).opt (inB n i) (@hid _ ⟨K⟩)=K ():=b_inB h1 h2
theorem p_join{b:Td}{m:(TD->HL->Prop)->Prop}:(PH C Sg T).join (@hid _ ⟨b⟩) (@hid _ ⟨m⟩)=m (@hid _ ⟨b⟩):=b_join
theorem p_eqs0{K:To}:(PH C Sg T).eqs [] (@hid _ ⟨K⟩)=K true:=b_eqs0
theorem p_eqs_t{a b:Int}{l:List (Lf×Lf)}{K:To}(h:a=b):(PH C Sg T).eqs ((.i a,.i b) :: l) (@hid _ ⟨K⟩)=(PH C Sg T).eqs l (@hid _ ⟨K⟩):=b_eqs_t h
theorem p_eqs_f{a b:Int}{l:List (Lf×Lf)}{K:To}(h:a≠b):(PH C Sg T).eqs ((.i a,.i b) :: l) (@hid _ ⟨K⟩)=K false:=b_eqs_f h
theorem p_it{F:(TD->HL->Prop)->TD->HL->Prop}{n:Nat}{ls:TD}{h:HL}:itH (@hid _ ⟨F⟩) (n+1) ls h=F (itH (@hid _ ⟨F⟩) n) ls h:=b_it
theorem p_eqsb_t{a b:Bool}{l:List (Lf×Lf)}{K:To}(h:a=b):(PH C Sg T).eqs ((.b a,.b b) :: l) (@hid _ ⟨K⟩)=(PH C Sg T).eqs l (@hid _ ⟨K⟩):=b_eqsb_t h
theorem p_eqsb_tf{l:List (Lf×Lf)}{K:To}:(PH C Sg T).eqs ((.b true,.b false) :: l) (@hid _ ⟨K⟩)=K false:=b_eqsb_tf
theorem p_eqsb_ft{l:List (Lf×Lf)}{K:To}:(PH C Sg T).eqs ((.b false,.b true) :: l) (@hid _ ⟨K⟩)=K false:=b_eqsb_ft
theorem p_mul_1{b:Int}{K:Tu}(h1:-9223372036854775808<=b)(h2:b<=9223372036854775807):(PH C Sg T).ari .mul .i64 1 b (@hid _ ⟨K⟩)=K b:=b_mul_1 h1 h2
theorem p_mul_0{b:Int}{K:Tu}:(PH C Sg T).ari .mul .i64 0 b (@hid _ ⟨K⟩)=K 0:=b_mul_0
theorem p_mul_m{b:Int}{K:Tu}(h1:-9223372036854775808<=-b)(h2:-b<=9223372036854775807):(PH C Sg T).ari .mul .i64 (-1) b (@hid _ ⟨K⟩)=K (-b):=b_mul_m h1 h2
theorem p_mul_r1{b:Int}{K:Tu}(h1:-9223372036854775808<=b)(h2:b<=9223372036854775807):(PH C Sg T).ari .mul .i64 b 1 (@hid _ ⟨K⟩)=K b:=b_mul_r1 h1 h2
theorem p_mul_r0{b:Int}{K:Tu}:(PH C Sg T).ari .mul .i64 b 0 (@hid _ ⟨K⟩)=K 0:=b_mul_r0
theorem p_mul_rm{b:Int}{K:Tu}(h1:-9223372036854775808<=-b)(h2:-b<=9223372036854775807):(PH C Sg T).ari .mul .i64 b (-1) (@hid _ ⟨K⟩)=K (-b):=b_mul_rm h1 h2
theorem p_add_0{b:Int}{K:Tu}(h1:-9223372036854775808<=b)(h2:b<=9223372036854775807):(PH C Sg T).ari .add .i64 0 b (@hid _ ⟨K⟩)=K b:=b_add_0 h1 h2
theorem p_add_r0{b:Int}{K:Tu}(h1:-9223372036854775808<=b)(h2:b<=9223372036854775807):(PH C Sg T).ari .add .i64 b 0 (@hid _ ⟨K⟩)=K b:=b_add_r0 h1 h2
theorem p_add_11{K:Tu}:(PH C Sg T).ari .add .i64 1 1 (@hid _ ⟨K⟩)=K 2:=b_add_11
theorem p_quo_1{a:Int}{K:Tu}(h1:-9223372036854775808<=a)(h2:a<=9223372036854775807):(PH C Sg T).ari .quo .i64 a 1 (@hid _ ⟨K⟩)=K a:=b_quo_1 h1 h2
theorem p_hid2{f:Td}{a:TD}{b:HL}:@hid _ ⟨f⟩ a b=f a b:=rfl
theorem p_eqs2_f{a b c d:Int}{K:To}(h:¬(a=c/\b=d)):(PH C Sg T).eqs [(.i a,.i c),(.i b,.i d)] (@hid _ ⟨K⟩)=K false:=by
 show K (cp _)=K false
 have:cp [(.i a,.i c),(.i b,.i d)]=false:=by
  rw[Bool.eq_false_iff]
  simpa[cp,gA]using h
 rw[this]
theorem p_eqs3_f{a b c d e f:Int}{K:To}(h:¬(a=d/\b=e/\c=f)):(PH C Sg T).eqs [(.i a,.i d),(.i b,.i e),(.i c,.i f)] (@hid _ ⟨K⟩)=K false:=by
 show K (cp _)=K false
 have:cp [(.i a,.i d),(.i b,.i e),(.i c,.i f)]=false:=by
  rw[Bool.eq_false_iff]
  simpa[cp,gA]using h
 rw[this]
def am{g:TM}{ls rs:TD}{h h':HL}{K:Td}(hc:aK C Sg g ls (absH T h) rs (absH T h'))(hk:K rs h'):(PH C Sg T).call g ls h (@hid _ ⟨K⟩):=⟨rs,h',hc,hk⟩
def lJ{g:TM}{sg:Sig}{ls rs:TD}{H H':Ts}(hc:aK C Sg g ls H rs H')(hs:Sg g=some sg)(xs:List S0)(h1:ca xs sg.ps=true)(h2:cg xs=ls) :
  tR C (.func (.func g) #[] #[]) (ah xs) sg.rs H rs H':=by
 obtain⟨sg',xs',ys,c1,c2,c3,c4⟩:=hc
 rw[hs]at c1
 cases c1
 obtain⟨w1,_⟩:=cH c2.1 h1 (c2.2.1.trans h2.symm)
 rw[w1]at c4
 exact⟨ys,c3,.inl ⟨g,#[],#[],rfl,by simpa using c4⟩⟩
def fR{v:Value}{args:Tl}{hs:TI}{rs:TD}{h h':HL}{K:Td}(hc:tR C v args hs (absH T h) rs (absH T h'))(hk:K rs h'):(PH C Sg T).callv v args hs h (@hid _ ⟨K⟩):=⟨rs,h',hc,hk⟩
theorem p_new{o:HObj}{h:HL}{K:Nat->HL->Prop}:(PH C Sg T).new o h (@hid _ ⟨K⟩)=K h.length (h++[.o o]):=rfl
def aq{v:Value}{K:Prop}(h:aW v=true)(hk:K):(PH C Sg T).chk v (@hid _ ⟨K⟩):=⟨h,hk⟩
def bS{f:Hp}{h:HL}{K:Ta}{acts:List Act1}{cs:Tl}(e:f.run (getH T h) h.length=some (acts,cs))(hk:K cs (cB h acts)):(PH C Sg T).heap f h (@hid _ ⟨K⟩):=⟨acts,cs,e,hk⟩
def ee{f:Pk}{h:HL}{K:Te}{cs:Tl}(e:f.run (getH T h)=some cs)(hk:K cs):(PH C Sg T).peek f h (@hid _ ⟨K⟩):=⟨cs,e,hk⟩
def pxs(C:Cfg)(Sg:Tc)(T:Tt):=And.intro @p_hid2 (And.intro (@p_new _ _ C Sg T) (And.intro (@p_unI _ _ C Sg T) (And.intro (@p_unB _ _ C Sg T) (And.intro (@p_unV _ _ C Sg T) (And.intro (@p_un0 _ _ C Sg T) (And.intro (@p_ucI _ _ C Sg T) (And.intro (@p_ucB _ _ C Sg T) (And.intro (@p_ucV _ _ C Sg T) (And.intro (@p_uc0 _ _ C Sg T) (And.intro (@p_cond_t _ _ C Sg T) (And.intro (@p_cond_f _ _ C Sg T) (And.intro (@p_opt _ _ C Sg T) (And.intro (@p_inB _ _ C Sg T) (And.intro (@p_join _ _ C Sg T) (And.intro (@p_sel_t _ _ C Sg T) (And.intro (@p_sel_f _ _ C Sg T) ((@p_it))))))))))))))))))
def pxc(C:Cfg)(Sg:Tc)(T:Tt):=And.intro (@p_lss_t _ _ C Sg T) (And.intro (@p_lss_f _ _ C Sg T) (And.intro (@p_leq_t _ _ C Sg T) (And.intro (@p_leq_f _ _ C Sg T) (And.intro (@p_gtr_t _ _ C Sg T) (And.intro (@p_gtr_f _ _ C Sg T) (And.intro (@p_geq_t _ _ C Sg T) (And.intro (@p_geq_f _ _ C Sg T) (And.intro (@p_eql_t _ _ C Sg T) (And.intro (@p_eql_f _ _ C Sg T) (And.intro (@p_neq_t _ _ C Sg T) (And.intro (@p_neq_f _ _ C Sg T) (And.intro (@p_eqs0 _ _ C Sg T) (And.intro (@p_eqs_t _ _ C Sg T) (And.intro (@p_eqs_f _ _ C Sg T) (And.intro (@p_eqs2_f _ _ C Sg T) (And.intro (@p_eqs3_f _ _ C Sg T) (And.intro (@p_eqsb_t _ _ C Sg T) (And.intro (@p_eqsb_tf _ _ C Sg T) ((@p_eqsb_ft _ _ C Sg T))))))))))))))))))))
def pxa(C:Cfg)(Sg:Tc)(T:Tt):=And.intro (@p_mul_1 _ _ C Sg T) (And.intro (@p_mul_0 _ _ C Sg T) (And.intro (@p_mul_m _ _ C Sg T) (And.intro (@p_mul_r1 _ _ C Sg T) (And.intro (@p_mul_r0 _ _ C Sg T) (And.intro (@p_mul_rm _ _ C Sg T) (And.intro (@p_add_0 _ _ C Sg T) (And.intro (@p_add_r0 _ _ C Sg T) (And.intro (@p_add_11 _ _ C Sg T) (And.intro (@p_quo_1 _ _ C Sg T) (And.intro (@p_add _ _ C Sg T) (And.intro (@p_sub _ _ C Sg T) (And.intro (@p_mul _ _ C Sg T) (And.intro (@p_add8 _ _ C Sg T) (And.intro (@p_sub8 _ _ C Sg T) (And.intro (@p_mul8 _ _ C Sg T) (And.intro (@p_quo_nn _ _ C Sg T) (And.intro (@p_quo_dv _ _ C Sg T) (And.intro (@p_rem_nn _ _ C Sg T) (And.intro (@p_rem_np _ _ C Sg T) (And.intro (@p_and1 _ _ C Sg T) (And.intro (@p_conv _ _ C Sg T) ((@p_conv8 _ _ C Sg T)))))))))))))))))))))))
end
end Sx
namespace Sx
section
variable [Val] [Kno]
variable {C:Cfg} {Sg:Tc} {T:Tt}
def rR{h:HL}{l:Nat}{o:HO}:absH T (h.set l o)=(absH T h).set l (absO T o):=by
 unfold absH
 rw[List.map_set]
end
end Sx
namespace Sx
open Go.Proofs
def hA(A:Alg Prop HL):Alg Prop HL where
 fail:=A.fail
 cond b x y:=A.cond b (@hid _ ⟨x⟩) (@hid _ ⟨y⟩)
 ari o k a b K:=A.ari o k a b (@hid _ ⟨K⟩)
 shf o k a l b K:=A.shf o k a l b (@hid _ ⟨K⟩)
 cmp o a b K:=A.cmp o a b (@hid _ ⟨K⟩)
 eqs l K:=A.eqs l (@hid _ ⟨K⟩)
 conv k a K:=A.conv k a (@hid _ ⟨K⟩)
 sel t a b K:=A.sel t a b (@hid _ ⟨K⟩)
 opt o K:=A.opt o (@hid _ ⟨K⟩)
 chk v x:=A.chk v (@hid _ ⟨x⟩)
 unI l K:=A.unI l (@hid _ ⟨K⟩)
 unB l K:=A.unB l (@hid _ ⟨K⟩)
 unV l K:=A.unV l (@hid _ ⟨K⟩)
 un0 l x:=A.un0 l (@hid _ ⟨x⟩)
 ucI k l K:=A.ucI k l (@hid _ ⟨K⟩)
 ucB l K:=A.ucB l (@hid _ ⟨K⟩)
 ucV l K:=A.ucV l (@hid _ ⟨K⟩)
 uc0 l x:=A.uc0 l (@hid _ ⟨x⟩)
 peek f h K:=A.peek f h (@hid _ ⟨K⟩)
 heap f h K:=A.heap f h (@hid _ ⟨K⟩)
 new o h K:=A.new o h (@hid _ ⟨K⟩)
 call g l h K:=A.call g l h (@hid _ ⟨K⟩)
 callv v a s h K:=A.callv v a s h (@hid _ ⟨K⟩)
 join b m:=A.join (@hid _ ⟨b⟩) (@hid _ ⟨m⟩)
 loop F l h:=A.loop (@hid _ ⟨F⟩) l h
 rfun n v a h K:=A.rfun n v a h (@hid _ ⟨K⟩)
 pend o x y l:=A.pend o (@hid _ ⟨x⟩) (@hid _ ⟨y⟩) l
 lp1 n h K:=A.lp1 n h (@hid _ ⟨K⟩)
 lp2 n o h K:=A.lp2 n o h (@hid _ ⟨K⟩)
def hA_eq(A:Alg Prop HL):hA A=A:=rfl
section
variable {A:Alg Prop HL}
theorem h_cond{b:Bool}{x y:Prop}:(hA A).cond b x y=A.cond b (@hid _ ⟨x⟩) (@hid _ ⟨y⟩):=rfl
theorem h_ari{o:BinOp}{k:TH}{a b:Int}{K:Tu}:(hA A).ari o k a b K=A.ari o k a b (@hid _ ⟨K⟩):=rfl
theorem h_shf{o:BinOp}{k l:TH}{a b:Int}{K:Tu}:(hA A).shf o k a l b K=A.shf o k a l b (@hid _ ⟨K⟩):=rfl
theorem h_cmp{o:BinOp}{a b:Int}{K:To}:(hA A).cmp o a b K=A.cmp o a b (@hid _ ⟨K⟩):=rfl
theorem h_eqs{l:List (Lf×Lf)}{K:To}:(hA A).eqs l K=A.eqs l (@hid _ ⟨K⟩):=rfl
theorem h_conv{k:TH}{a:Int}{K:Tu}:(hA A).conv k a K=A.conv k a (@hid _ ⟨K⟩):=rfl
theorem h_sel{t:Bool}{a b:Int}{K:Tu}:(hA A).sel t a b K=A.sel t a b (@hid _ ⟨K⟩):=rfl
theorem h_opt{α:Type}{o:Option α}{K:α->Prop}:(hA A).opt o K=A.opt o (@hid _ ⟨K⟩):=rfl
theorem h_chk{v:Value}{x:Prop}:(hA A).chk v x=A.chk v (@hid _ ⟨x⟩):=rfl
theorem h_unI{l:TD}{K:Int->TD->Prop}:(hA A).unI l K=A.unI l (@hid _ ⟨K⟩):=rfl
theorem h_unB{l:TD}{K:Bool->TD->Prop}:(hA A).unB l K=A.unB l (@hid _ ⟨K⟩):=rfl
theorem h_unV{l:TD}{K:Value->TD->Prop}:(hA A).unV l K=A.unV l (@hid _ ⟨K⟩):=rfl
theorem h_un0{l:TD}{x:Prop}:(hA A).un0 l x=A.un0 l (@hid _ ⟨x⟩):=rfl
theorem h_ucI{k:TH}{l:Tl}{K:Int->Tl->Prop}:(hA A).ucI k l K=A.ucI k l (@hid _ ⟨K⟩):=rfl
theorem h_ucB{l:Tl}{K:Bool->Tl->Prop}:(hA A).ucB l K=A.ucB l (@hid _ ⟨K⟩):=rfl
theorem h_ucV{l:Tl}{K:Value->Tl->Prop}:(hA A).ucV l K=A.ucV l (@hid _ ⟨K⟩):=rfl
theorem h_uc0{l:Tl}{x:Prop}:(hA A).uc0 l x=A.uc0 l (@hid _ ⟨x⟩):=rfl
theorem h_peek{f:Pk}{h:HL}{K:Te}:(hA A).peek f h K=A.peek f h (@hid _ ⟨K⟩):=rfl
theorem h_heap{f:Hp}{h:HL}{K:Ta}:(hA A).heap f h K=A.heap f h (@hid _ ⟨K⟩):=rfl
theorem h_new{o:HObj}{h:HL}{K:Nat->HL->Prop}:(hA A).new o h K=A.new o h (@hid _ ⟨K⟩):=rfl
theorem h_call{g:TM}{l:TD}{h:HL}{K:Td}:(hA A).call g l h K=A.call g l h (@hid _ ⟨K⟩):=rfl
theorem h_callv{v:Value}{a:Tl}{s:TI}{h:HL}{K:Td}:(hA A).callv v a s h K=A.callv v a s h (@hid _ ⟨K⟩):=rfl
theorem h_join{b:Td}{m:(TD->HL->Prop)->Prop}:(hA A).join b m=A.join (@hid _ ⟨b⟩) (@hid _ ⟨m⟩):=rfl
theorem h_loop{F:(TD->HL->Prop)->TD->HL->Prop}{l:TD}{h:HL}:(hA A).loop F l h=A.loop (@hid _ ⟨F⟩) l h:=rfl
theorem h_rfun{n:Nat}{v:Value}{a:Tl}{h:HL}{K:Tk->HL->Prop}:(hA A).rfun n v a h K=A.rfun n v a h (@hid _ ⟨K⟩):=rfl
theorem h_pend{o:Tk}{x y:Prop}{l:List (Nat×Prop)}:(hA A).pend o x y l=A.pend o (@hid _ ⟨x⟩) (@hid _ ⟨y⟩) l:=rfl
theorem h_lp1{n:Nat}{h:HL}{K:HL->Prop}:(hA A).lp1 n h K=A.lp1 n h (@hid _ ⟨K⟩):=rfl
theorem h_lp2{n:Nat}{o:Tk}{h:HL}{K:HL->Prop}:(hA A).lp2 n o h K=A.lp2 n o h (@hid _ ⟨K⟩):=rfl
end
def pxh(A:Alg Prop HL):=And.intro (@h_cond A) (And.intro (@h_ari A) (And.intro (@h_shf A) (And.intro (@h_cmp A) (And.intro (@h_eqs A) (And.intro (@h_conv A) (And.intro (@h_sel A) (And.intro (@h_opt A) (And.intro (@h_chk A) (And.intro (@h_unI A) (And.intro (@h_unB A) (And.intro (@h_unV A) (And.intro (@h_un0 A) (And.intro (@h_ucI A) (And.intro (@h_ucB A) (And.intro (@h_ucV A) (And.intro (@h_uc0 A) (And.intro (@h_peek A) (And.intro (@h_heap A) (And.intro (@h_new A) (And.intro (@h_call A) (And.intro (@h_callv A) (And.intro (@h_join A) (And.intro (@h_loop A) (And.intro (@h_rfun A) (And.intro (@h_pend A) (And.intro (@h_lp1 A) ((@h_lp2 A))))))))))))))))))))))))))))
end Sx
end Go.Am
namespace Go.Am
open Sx Go.Proofs
def gl_cell(g:Nat)(vs:Tl)(h:cc.G g=some vs):vs.all aX=true:=by
 unfold cc at h
 simp only at h
 split at h<;>first|(cases h;done)|(obtain rfl:=qae h;kernel_rfl)|(unfold glx at h;split at h<;>first|(cases h;done)|(obtain rfl:=qae h;kernel_rfl))
abbrev P1:Alg Prop HL:=PH cc ab aa
abbrev Cc(g:TM)(ls rs:TD):Prop:=∀H,aK cc ab g ls H rs H
def fn_ok{f:TM}{fn:Fn1}(hi:FnIs (xc f) ab f fn){ls:TD}{H:HL}{K:Td}(hls:gI ls=true)
  (h:av P1 (xc f) ab drN fn ls H K):∃rs H',aK cc ab f ls (absH aa H) rs (absH aa H')/\K rs H':=by
 obtain⟨rs,h',a1,_,a3⟩:=qA (X:=xc f) (holds:=id) (abs:=absH aa) (PH_ok cc ab aa) vi hi (cI hls) h
 exact⟨rs,h',a1,a3⟩
def fn_okG{f:TM}{fn:Fn1}(hi:FnIs (xc f) ab f fn){ls:TD}{H:HL}{K:Td}(hls:dj ls)
  (h:av P1 (xc f) ab drN fn ls H K):∃rs H',aK cc ab f ls (absH aa H) rs (absH aa H')/\K rs H':=by
 obtain⟨rs,h',a1,_,a3⟩:=qA (X:=xc f) (holds:=id) (abs:=absH aa) (PH_ok cc ab aa) vi hi hls h
 exact⟨rs,h',a1,a3⟩
def gls0:dj []:=λ_ h=>by cases h
def glsI{n:Int}{ls:TD}(h:dj ls):dj (.i n :: ls):=λl hl=>by
 rcases qal.1 hl with rfl|hl
 ·trivial
 ·exact h l hl
def glsV{x:Value}{ls:TD}(hx:aW x=true)(h:dj ls):dj (.v x :: ls):=λl hl=>by
 rcases qal.1 hl with rfl|hl
 ·exact hx
 ·exact h l hl
abbrev FP:=List Lf->HL->(TD->HL->Prop)->Prop
abbrev UG(k:TM)(p:FP):Prop:=∀ {ls:TD} {H:HL} {K:Td},gI ls=true->p ls H K->∃rs H',aK cc ab k ls (absH aa H) rs (absH aa H')/\K rs H'
abbrev XG(k:TM)(p:FP):Prop:=∀ {ls:TD} {H:HL} {K:Td},dj ls->p ls H K->∃rs H',aK cc ab k ls (absH aa H) rs (absH aa H')/\K rs H'
abbrev QG(k:TM)(p:FP):Prop:=∀ {ls rs:TD},gI ls=true->p ls [] (λrs' _=>rs'=rs)->Cc k ls rs
def uu{k:TM}{fn:Fn1}{f:{R HT:Type}->Alg R HT->TD->HT->(TD->HT->R)->R}(hi:FnIs (xc k) ab k fn)(e:@f=λR HT A ls h K=>av A (xc k) ab drN fn ls h K):UG k (f (hA P1)):=by
 intro ls H K hls h
 rw[hA_eq,e]at h
 exact fn_ok hi hls h
def xx{k:TM}{fn:Fn1}{f:{R HT:Type}->Alg R HT->TD->HT->(TD->HT->R)->R}(hi:FnIs (xc k) ab k fn)(e:@f=λR HT A ls h K=>av A (xc k) ab drN fn ls h K):XG k (f (hA P1)):=by
 intro ls H K hls h
 rw[hA_eq,e]at h
 exact fn_okG hi hls h
def qq{k:TM}{sg:Sig}{p:FP}(hu:UG k p)(hs:ab k=some sg)(hf:sg.plain=true):QG k p:=λhls h=>by
 obtain⟨_,_,h1,rfl⟩:=hu hls h
 exact ct_of mixed gH hs hf h1
def qxs:=pxs cc ab aa
def qxh:=And.intro (qeq (hA P1)) (pxh P1)
def qxc:=pxc cc ab aa
def qxa:=pxa cc ab aa
def qXX:=And.intro qxs (And.intro qxc qxa)
def p_x{P Q:Prop}(k:Q)(h:P=Q:=by simp(disch:=omega)only[↓qXX];exact rfl):P:=Eq.mpr h k
def xK{k:TM}{p:FP}(hx:XG k p){ls R:TD}{H H':HL}(hg:dj ls)(h:p ls H λrs h'=>rs=R/\h'=H'):aK cc ab k ls (absH aa H) R (absH aa H'):=by
 obtain⟨rs,h',h1,rfl,rfl⟩:=hx hg h
 exact h1
def x3:XG 3 (f3 (hA P1)):=xx i3 e3
def x5:XG 5 (f5 (hA P1)):=xx i5 e5
def x6:XG 6 (f6 (hA P1)):=xx i6 e6
def x7:XG 7 (f7 (hA P1)):=xx i7 e7
def u8:UG 8 (f8 (hA P1)):=uu i8 e8
def x8:XG 8 (f8 (hA P1)):=xx i8 e8
def x9:XG 9 (f9 (hA P1)):=xx i9 e9
def x10:XG 10 (f10 (hA P1)):=xx i10 e10
def x11:XG 11 (f11 (hA P1)):=xx i11 e11
def x13:XG 13 (f13 (hA P1)):=xx i13 e13
def u16:UG 16 (f16 (hA P1)):=uu i16 e16
def x16:XG 16 (f16 (hA P1)):=xx i16 e16
def x17:XG 17 (f17 (hA P1)):=xx i17 e17
def x18:XG 18 (f18 (hA P1)):=xx i18 e18
def u19:UG 19 (f19 (hA P1)):=uu i19 e19
def q19:QG 19 (f19 (hA P1)):=qq u19 rfl (by kernel_rfl)
def x20:XG 20 (f20 (hA P1)):=xx i20 e20
def x21:XG 21 (f21 (hA P1)):=xx i21 e21
def u22:UG 22 (f22 (hA P1)):=uu i22 e22
def q22:QG 22 (f22 (hA P1)):=qq u22 rfl (by kernel_rfl)
def x23:XG 23 (f23 (hA P1)):=xx i23 e23
def x24:XG 24 (f24 (hA P1)):=xx i24 e24
def x25:XG 25 (f25 (hA P1)):=xx i25 e25
def x26:XG 26 (f26 (hA P1)):=xx i26 e26
def u27:UG 27 (f27 (hA P1)):=uu i27 e27
def q27:QG 27 (f27 (hA P1)):=qq u27 rfl (by kernel_rfl)
def x29:XG 29 (f29 (hA P1)):=xx i29 e29
def u30:UG 30 (f30 (hA P1)):=uu i30 e30
def q30:QG 30 (f30 (hA P1)):=qq u30 rfl (by kernel_rfl)
def x31:XG 31 (f31 (hA P1)):=xx i31 e31
def x33:XG 33 (f33 (hA P1)):=xx i33 e33
def x34:XG 34 (f34 (hA P1)):=xx i34 e34
def u35:UG 35 (f35 (hA P1)):=uu i35 e35
def q35:QG 35 (f35 (hA P1)):=qq u35 rfl (by kernel_rfl)
def x36:XG 36 (f36 (hA P1)):=xx i36 e36
def x37:XG 37 (f37 (hA P1)):=xx i37 e37
def x38:XG 38 (f38 (hA P1)):=xx i38 e38
def x39:XG 39 (f39 (hA P1)):=xx i39 e39
def x41:XG 41 (f41 (hA P1)):=xx i41 e41
def u42:UG 42 (f42 (hA P1)):=uu i42 e42
def q42:QG 42 (f42 (hA P1)):=qq u42 rfl (by kernel_rfl)
def u43:UG 43 (f43 (hA P1)):=uu i43 e43
def q43:QG 43 (f43 (hA P1)):=qq u43 rfl (by kernel_rfl)
def x44:XG 44 (f44 (hA P1)):=xx i44 e44
def x46:XG 46 (f46 (hA P1)):=xx i46 e46
def x47:XG 47 (f47 (hA P1)):=xx i47 e47
def u48:UG 48 (f48 (hA P1)):=uu i48 e48
def q48:QG 48 (f48 (hA P1)):=qq u48 rfl (by kernel_rfl)
def u49:UG 49 (f49 (hA P1)):=uu i49 e49
def q49:QG 49 (f49 (hA P1)):=qq u49 rfl (by kernel_rfl)
def x50:XG 50 (f50 (hA P1)):=xx i50 e50
def x51:XG 51 (f51 (hA P1)):=xx i51 e51
def x53:XG 53 (f53 (hA P1)):=xx i53 e53
def x54:XG 54 (f54 (hA P1)):=xx i54 e54
def x57:XG 57 (f57 (hA P1)):=xx i57 e57
def u58:UG 58 (f58 (hA P1)):=uu i58 e58
def q58:QG 58 (f58 (hA P1)):=qq u58 rfl (by kernel_rfl)
def x59:XG 59 (f59 (hA P1)):=xx i59 e59
def u60:UG 60 (f60 (hA P1)):=uu i60 e60
def q60:QG 60 (f60 (hA P1)):=qq u60 rfl (by kernel_rfl)
def x61:XG 61 (f61 (hA P1)):=xx i61 e61
def u62:UG 62 (f62 (hA P1)):=uu i62 e62
def q62:QG 62 (f62 (hA P1)):=qq u62 rfl (by kernel_rfl)
def x63:XG 63 (f63 (hA P1)):=xx i63 e63
def u67:UG 67 (f67 (hA P1)):=uu i67 e67
def q67:QG 67 (f67 (hA P1)):=qq u67 rfl (by kernel_rfl)
def x68:XG 68 (f68 (hA P1)):=xx i68 e68
def x69:XG 69 (f69 (hA P1)):=xx i69 e69
def u70:UG 70 (f70 (hA P1)):=uu i70 e70
def q70:QG 70 (f70 (hA P1)):=qq u70 rfl (by kernel_rfl)
def x71:XG 71 (f71 (hA P1)):=xx i71 e71
def u72:UG 72 (f72 (hA P1)):=uu i72 e72
def q72:QG 72 (f72 (hA P1)):=qq u72 rfl (by kernel_rfl)
def u73:UG 73 (f73 (hA P1)):=uu i73 e73
def q73:QG 73 (f73 (hA P1)):=qq u73 rfl (by kernel_rfl)
def u74:UG 74 (f74 (hA P1)):=uu i74 e74
def q74:QG 74 (f74 (hA P1)):=qq u74 rfl (by kernel_rfl)
def x86:XG 86 (f86 (hA P1)):=xx i86 e86
def u94:UG 94 (f94 (hA P1)):=uu i94 e94
def q94:QG 94 (f94 (hA P1)):=qq u94 rfl (by kernel_rfl)
def x95:XG 95 (f95 (hA P1)):=xx i95 e95
def u96:UG 96 (f96 (hA P1)):=uu i96 e96
def q96:QG 96 (f96 (hA P1)):=qq u96 rfl (by kernel_rfl)
def u97:UG 97 (f97 (hA P1)):=uu i97 e97
def q97:QG 97 (f97 (hA P1)):=qq u97 rfl (by kernel_rfl)
def u98:UG 98 (f98 (hA P1)):=uu i98 e98
def q98:QG 98 (f98 (hA P1)):=qq u98 rfl (by kernel_rfl)
def u99:UG 99 (f99 (hA P1)):=uu i99 e99
def q99:QG 99 (f99 (hA P1)):=qq u99 rfl (by kernel_rfl)
def u100:UG 100 (f100 (hA P1)):=uu i100 e100
def q100:QG 100 (f100 (hA P1)):=qq u100 rfl (by kernel_rfl)
def u101:UG 101 (f101 (hA P1)):=uu i101 e101
def q101:QG 101 (f101 (hA P1)):=qq u101 rfl (by kernel_rfl)
def x102:XG 102 (f102 (hA P1)):=xx i102 e102
def u103:UG 103 (f103 (hA P1)):=uu i103 e103
def q103:QG 103 (f103 (hA P1)):=qq u103 rfl (by kernel_rfl)
def x104:XG 104 (f104 (hA P1)):=xx i104 e104
def u105:UG 105 (f105 (hA P1)):=uu i105 e105
def q105:QG 105 (f105 (hA P1)):=qq u105 rfl (by kernel_rfl)
def u106:UG 106 (f106 (hA P1)):=uu i106 e106
def q106:QG 106 (f106 (hA P1)):=qq u106 rfl (by kernel_rfl)
def u107:UG 107 (f107 (hA P1)):=uu i107 e107
def q107:QG 107 (f107 (hA P1)):=qq u107 rfl (by kernel_rfl)
def u108:UG 108 (f108 (hA P1)):=uu i108 e108
def q108:QG 108 (f108 (hA P1)):=qq u108 rfl (by kernel_rfl)
def u109:UG 109 (f109 (hA P1)):=uu i109 e109
def q109:QG 109 (f109 (hA P1)):=qq u109 rfl (by kernel_rfl)
def u110:UG 110 (f110 (hA P1)):=uu i110 e110
def q110:QG 110 (f110 (hA P1)):=qq u110 rfl (by kernel_rfl)
def u113:UG 113 (f113 (hA P1)):=uu i113 e113
def q113:QG 113 (f113 (hA P1)):=qq u113 rfl (by kernel_rfl)
def x122:XG 122 (f122 (hA P1)):=xx i122 e122
def u123:UG 123 (f123 (hA P1)):=uu i123 e123
def q123:QG 123 (f123 (hA P1)):=qq u123 rfl (by kernel_rfl)
def u124:UG 124 (f124 (hA P1)):=uu i124 e124
def q124:QG 124 (f124 (hA P1)):=qq u124 rfl (by kernel_rfl)
def u125:UG 125 (f125 (hA P1)):=uu i125 e125
def q125:QG 125 (f125 (hA P1)):=qq u125 rfl (by kernel_rfl)
def u126:UG 126 (f126 (hA P1)):=uu i126 e126
def q126:QG 126 (f126 (hA P1)):=qq u126 rfl (by kernel_rfl)
def u127:UG 127 (f127 (hA P1)):=uu i127 e127
def q127:QG 127 (f127 (hA P1)):=qq u127 rfl (by kernel_rfl)
def u128:UG 128 (f128 (hA P1)):=uu i128 e128
def q128:QG 128 (f128 (hA P1)):=qq u128 rfl (by kernel_rfl)
def u131:UG 131 (f131 (hA P1)):=uu i131 e131
def q131:QG 131 (f131 (hA P1)):=qq u131 rfl (by kernel_rfl)
end Go.Am
namespace Go.Am
namespace Sx
def cut_some{vs:Tl}{off n:Nat}{cs:Tl}:cut vs off n=some cs↔off+n<=vs.length/\(vs.drop off).take n=cs:=by
 unfold cut
 split
 next h=>simp[h]
 next h=>simp[h]
def cut_len{vs:Tl}{off n:Nat}{cs:Tl}(h:cut vs off n=some cs):cs.length=n:=by
 obtain⟨h1,rfl⟩:=cut_some.1 h
 rw[qaI,qbN];omega
def qk{vs:Tl}{off n:Nat}{cs:Tl}(h:cut vs off n=some cs){o k:Nat}(hk:o+k<=n):cut vs (off+o) k=some ((cs.drop o).take k):=by
 obtain⟨h1,rfl⟩:=cut_some.1 h
 refine cut_some.2 ⟨by omega,?_⟩
 rw[List.drop_take,qbS,List.take_take,qa8 (by omega)]
def cut_all{vs:Tl}{n:Nat}(h:vs.length=n):cut vs 0 n=some vs:=cut_some.2 ⟨by omega,by rw[qa1,qaQ (by omega)]⟩
def Pre(h0 h:HL):Prop:=∃G,h=h0++G
def Pre.refl(h:HL):Pre h h:=⟨[],by simp⟩
def Pre.trans{a b c:HL}(h:Pre a b)(k:Pre b c):Pre a c:=by
 obtain⟨G,rfl⟩:=h
 obtain⟨G',rfl⟩:=k
 exact⟨G++G',by simp⟩
def Pre.app{a b:HL}(h:Pre a b)(G:HL):Pre a (b++G):=h.trans ⟨G,rfl⟩
def Pre.len{a b:HL}(h:Pre a b):a.length<=b.length:=by obtain⟨G,rfl⟩:=h;simp
def Pre.get{a b:HL}(h:Pre a b){i:Nat}{o:HO}(hi:a[i]?=some o):b[i]?=some o:=by
 obtain⟨G,rfl⟩:=h
 have:i<a.length:=by
  rcases qaO i a.length with h|h
  ·exact h
  ·rw[qaj h]at hi;cases hi
 rw[qah this];exact hi
def Pre.set{a b:HL}(h:Pre a b){i:Nat}(hi:a.length<=i)(o:HO):Pre a (b.set i o):=by
 obtain⟨G,rfl⟩:=h
 rw[qb1 _ _ hi]
 exact⟨_,rfl⟩
def Ptr(h:HL)(p:Value)(cs:Tl):Prop:=∃id o vs e rw,p = .pointer (some ⟨id,o,none⟩)/\h[id]?=some (.o (.cells vs e rw))/\cut vs o cs.length=some cs
def SlC(h:HL)(v:Value)(e n:Nat)(cs:Tl):Prop:=
 cs.length=n*e/\((v = .slice none 0 0/\n=0)∨∃id off cx vs rw,v = .slice (some ⟨id,off,tag e⟩) n cx/\h[id]?=some (.o (.cells vs e rw))/\cut vs off (n*e)=some cs)
def LsH{α:Type}(h:HL)(v:Value)(e:Nat)(enc:α->Tl)(l:List α):Prop:=(∀a∈l,(enc a).length=e)/\SlC h v e l.length (l.flatMap enc)
def Mk(n0:Nat)(h:HL)(v:Value)(e n:Nat)(cs:Tl):Prop:=
 cs.length=n*e/\((v = .slice none 0 0/\n=0)∨∃id,n0<=id/\v = .slice (some ⟨id,0,tag e⟩) n 0/\h[id]?=some (.o (.cells cs e true)))
def MkL{α:Type}(n0:Nat)(h:HL)(v:Value)(e:Nat)(enc:α->Tl)(l:List α):Prop:=(∀a∈l,(enc a).length=e)/\Mk n0 h v e l.length (l.flatMap enc)
def blk:Value->Option Nat
 | .slice (some a) _ _=>some a.block
 |_=>none
def Ptr.keep{h h':HL}{p:Value}{cs:Tl}(hp:Ptr h p cs)(hk:∀(j:Nat) o,h[j]?=some o->h'[j]?=some o):Ptr h' p cs:=by
 obtain⟨id,o,vs,e,rw',h1,h2,h3⟩:=hp
 exact⟨id,o,vs,e,rw',h1,hk _ _ h2,h3⟩
def SlC.keep{h h':HL}{v:Value}{e n:Nat}{cs:Tl}(hs:SlC h v e n cs)(hk:∀(j:Nat) o,h[j]?=some o->blk v=some j->h'[j]?=some o):SlC h' v e n cs:=by
 obtain⟨h0,h1|⟨id,off,cx,vs,rw',rfl,h2,h3⟩⟩:=hs
 ·exact⟨h0,.inl h1⟩
 ·exact⟨h0,.inr ⟨id,off,cx,vs,rw',rfl,hk _ _ h2 rfl,h3⟩⟩
def SlC.pre{h h':HL}{v:Value}{e n:Nat}{cs:Tl}(hs:SlC h v e n cs)(hp:Pre h h'):SlC h' v e n cs:=hs.keep λ_ _ h _=>hp.get h
def LsH.keep{α:Type}{h h':HL}{v:Value}{e:Nat}{enc:α->Tl}{l:List α}(hs:LsH h v e enc l)(hk:∀(j:Nat) o,h[j]?=some o->blk v=some j->h'[j]?=some o):LsH h' v e enc l:=⟨hs.1,hs.2.keep hk⟩
def LsH.pre{α:Type}{h h':HL}{v:Value}{e:Nat}{enc:α->Tl}{l:List α}(hs:LsH h v e enc l)(hp:Pre h h'):LsH h' v e enc l:=⟨hs.1,hs.2.pre hp⟩
def SlC.len{h:HL}{v:Value}{e n:Nat}{cs:Tl}(hs:SlC h v e n cs):lenS v=some (.ofNat n):=by
 obtain⟨_,⟨rfl,rfl⟩|⟨id,off,cx,vs,rw',rfl,_⟩⟩:=hs<;>rfl
def LsH.len{α:Type}{h:HL}{v:Value}{e:Nat}{enc:α->Tl}{l:List α}(hs:LsH h v e enc l):lenS v=some (.ofNat l.length):=hs.2.len
def Mk.sl{n0:Nat}{h:HL}{v:Value}{e n:Nat}{cs:Tl}(hs:Mk n0 h v e n cs):SlC h v e n cs:=by
 obtain⟨h0,h1|⟨id,_,rfl,h2⟩⟩:=hs
 ·exact⟨h0,.inl h1⟩
 ·exact⟨h0,.inr ⟨id,0,0,cs,true,rfl,h2,cut_all h0⟩⟩
def MkL.ls{α:Type}{n0:Nat}{h:HL}{v:Value}{e:Nat}{enc:α->Tl}{l:List α}(hs:MkL n0 h v e enc l):LsH h v e enc l:=⟨hs.1,hs.2.sl⟩
def Mk.nil(n0:Nat)(h:HL)(e:Nat):Mk n0 h (.slice none 0 0) e 0 []:=⟨by simp,.inl ⟨rfl,rfl⟩⟩
def MkL.nil{α:Type}(n0:Nat)(h:HL)(e:Nat)(enc:α->Tl):MkL n0 h (.slice none 0 0) e enc []:=⟨by simp,Mk.nil n0 h e⟩
def LsH.nil{α:Type}(h:HL)(e:Nat)(enc:α->Tl):LsH h (.slice none 0 0) e enc []:=(MkL.nil 0 h e enc).ls
def Mk.keep{n0:Nat}{h h':HL}{v:Value}{e n:Nat}{cs:Tl}(hs:Mk n0 h v e n cs)(hk:∀(j:Nat) o,h[j]?=some o->blk v=some j->h'[j]?=some o):Mk n0 h' v e n cs:=by
 obtain⟨h0,h1|⟨id,h1,rfl,h2⟩⟩:=hs
 ·exact⟨h0,.inl h1⟩
 ·exact⟨h0,.inr ⟨id,h1,rfl,hk _ _ h2 rfl⟩⟩
def Mk.pre{n0:Nat}{h h':HL}{v:Value}{e n:Nat}{cs:Tl}(hs:Mk n0 h v e n cs)(hp:Pre h h'):Mk n0 h' v e n cs:=hs.keep λ_ _ h _=>hp.get h
def MkL.keep{α:Type}{n0:Nat}{h h':HL}{v:Value}{e:Nat}{enc:α->Tl}{l:List α}(hs:MkL n0 h v e enc l)(hk:∀(j:Nat) o,h[j]?=some o->blk v=some j->h'[j]?=some o):MkL n0 h' v e enc l:=⟨hs.1,hs.2.keep hk⟩
def MkL.pre{α:Type}{n0:Nat}{h h':HL}{v:Value}{e:Nat}{enc:α->Tl}{l:List α}(hs:MkL n0 h v e enc l)(hp:Pre h h'):MkL n0 h' v e enc l:=⟨hs.1,hs.2.pre hp⟩
def aG{α:Type}{e:Nat}{enc:α->Tl}:∀ {l:List α},(∀a∈l,(enc a).length=e)->(l.flatMap enc).length=l.length*e
 | [],_=>by simp
 |a :: l,h=>by
  rw[qbI,qaC,h a qaB,aG λb hb=>h b (qan _ hb),qaG,qbF,qb9,Nat.add_comm]
def jT{α:Type}{e:Nat}{enc:α->Tl}:∀ {l:List α},(∀a∈l,(enc a).length=e)->∀ {i:Nat} {a:α},l[i]?=some a->((l.flatMap enc).drop (i*e)).take e=enc a
 |b :: l,h,0,a,hi=>by
  simp only[qaR,qas]at hi
  subst hi
  have:=h b qaB
  rw[qcw,qa1,qbI,qb4 (by omega),qaQ (by omega)]
 |b :: l,h,i+1,a,hi=>by
  simp only[qbf]at hi
  have hb:=h b qaB
  have:=jT (λb hb=>h b (qan _ hb)) hi
  rw[qbI,qbF,qb9,←this]
  have e1:i*e+e=(enc b).length+i*e:=by omega
  rw[e1,qcn,qbu (by omega),qaS,qcI]
 | [],_,_,_,hi=>by simp at hi
def SlC.at{h:HL}{v:Value}{e n:Nat}{cs:Tl}(hs:SlC h v e n cs){i:Nat}(hi:i<n):∃p,idS e v (.ofNat i)=some p/\Ptr h p ((cs.drop (i*e)).take e):=by
 obtain⟨h0,⟨rfl,rfl⟩|⟨id,off,cx,vs,rw',rfl,h2,h3⟩⟩:=hs
 ·omega
 ·have hle:i*e+e<=n*e:=by
   have:=qbl e (show i+1<=n by omega)
   rw[qbF,qb9]at this;exact this
  refine⟨.pointer (some ⟨id,off+i*e,none⟩),?_,id,off+i*e,vs,e,rw',rfl,h2,?_⟩
  ·rw[sL]
   have hh:0<=Int.ofNat i/\Int.ofNat i<(n:Int):=⟨qav i,by show(i:Int)<n;omega⟩
   simp only[qdy hh]
   have:¬(tag e=some 1):=by simp[tag]
   simp only[qdz this]
   rfl
  ·have hc:=qk h3 hle
   have hl:=cut_len hc
   rw[hl];exact hc
def LsH.at{α:Type}{h:HL}{v:Value}{e:Nat}{enc:α->Tl}{l:List α}(hs:LsH h v e enc l){i:Nat}{a:α}(hi:l[i]?=some a):∃p,idS e v (.ofNat i)=some p/\Ptr h p (enc a):=by
 have hlt:i<l.length:=by
  rcases qaO i l.length with h|h
  ·exact h
  ·rw[qaj h]at hi;cases hi
 obtain⟨p,h1,h2⟩:=hs.2.at hlt
 rw[jT hs.1 hi]at h2
 exact⟨p,h1,h2⟩
def Ptr.fd{h:HL}{p:Value}{cs:Tl}(hp:Ptr h p cs)(o k:Nat)(hk:o+k<=cs.length):∃p',fdP o p=some p'/\Ptr h p' ((cs.drop o).take k):=by
 obtain⟨id,o',vs,e,rw',rfl,h2,h3⟩:=hp
 refine⟨_,rfl,id,o'+o,vs,e,rw',rfl,h2,?_⟩
 have hc:=qk h3 hk
 rw[cut_len hc];exact hc
section
variable [Val] [Kno]
def bR{T:Tt}{h:HL}{i:Nat}{o:HObj}(hi:h[i]?=some (.o o)):getH T h i=some o:=by
 unfold getH;rw[hi];rfl
def Ptr.ld{T:Tt}{h:HL}{p:Value}{cs:Tl}(hp:Ptr h p cs){n:Nat}(hn:cs.length=n):(Pk.ld n p).run (getH T h)=some cs:=by
 obtain⟨id,o,vs,e,rw',rfl,h2,h3⟩:=hp
 subst hn
 show(match (none:Tp)with|none=>(gp (getH T h) id).bind λvs=>cut vs o cs.length|some _=>none)=_
 unfold gp
 rw[bR h2]
 exact h3
def Ptr.lg{C:Cfg}{T:Tt}{h:HL}{p:Value}{cs:Tl}(hp:Ptr h p cs){n:Nat}(hn:cs.length=n):(Pk.lg C n p).run (getH T h)=some cs:=by
 obtain⟨id,o,vs,e,rw',rfl,h2,h3⟩:=hp
 subst hn
 show(gp (getH T h) id).bind (λvs=>cut vs o cs.length)=_
 unfold gp
 rw[bR h2]
 exact h3
def tK{C:Cfg}{T:Tt}{h:HL}{v:Value}{e n:Nat}{cs:Tl}(hs:SlC h v e n cs):slG C e (getH T h) v=some (cs,n):=by
 obtain⟨h0,⟨rfl,rfl⟩|⟨id,off,cx,vs,rw',rfl,h2,h3⟩⟩:=hs
 ·simp only[qcw,qbn]at h0
  subst h0;rfl
 ·unfold slG
  have:¬(tag e=some 1):=by simp[tag]
  simp only[qdz this,if_true]
  rw[bR h2]
  simp only[if_true]
  rw[h3];rfl
variable {C:Cfg} {Sg:Tc} {T:Tt}
end
end Sx
namespace Sx
def Ptr.good{h:HL}{p:Value}{cs:Tl}(hp:Ptr h p cs):aW p=true:=by
 obtain⟨id,o,vs,e,rw',rfl,_⟩:=hp
 simp[aW,noLoc,bj,bB,bu,aS,aJ]
def SlC.good{h:HL}{v:Value}{e n:Nat}{cs:Tl}(hs:SlC h v e n cs):aW v=true:=by
 obtain⟨_,⟨rfl,_⟩|⟨id,off,cx,vs,rw',rfl,_⟩⟩:=hs
 ·rfl
 ·simp[aW,noLoc,bj,bB,bu,aS,aJ,tag]
def LsH.good{α:Type}{h:HL}{v:Value}{e:Nat}{enc:α->Tl}{l:List α}(hs:LsH h v e enc l):aW v=true:=hs.2.good
section
variable [Val] [Kno] {C:Cfg} {Sg:Tc} {T:Tt}
def hidL{F:(TD->HL->Prop)->TD->HL->Prop}{s:Td}{l:TD}{h:HL}(hf:F s l h):@hid _ ⟨F⟩ s l h:=hf
def cF{σ:Type}{F:(TD->HL->Prop)->TD->HL->Prop}(n:Nat)(S:Nat->σ->TD)(HP:Nat->σ->HL)(Inv:Nat->σ->Prop){j0:Nat}{s0:σ}{ls:TD}{h:HL}(hls:ls=S j0 s0)(hh:h=HP j0 s0)(hj:j0<=n)(hi:Inv j0 s0)
  (step:∀j s,j<=n->Inv j s->∀self:TD->HL->Prop,(∀s',j<n->Inv (j+1) s'->self (S (j+1) s') (HP (j+1) s'))->F self (S j s) (HP j s)):(PH C Sg T).loop (@hid _ ⟨F⟩) ls h:=by
 subst hls hh
 refine gZ (m:=n - j0) (λm ls h=>∃j s,ls=S j s/\h=HP j s/\j<=n/\m=n - j/\Inv j s) ⟨j0,s0,rfl,rfl,hj,rfl,hi⟩ ?_
 rintro m ls h ⟨j,s,rfl,rfl,hj,rfl,hi⟩ self hself
 exact hidL (step j s hj hi self λs' hlt hi'=>hself (n - (j+1)) _ _ (by omega) ⟨j+1,s',rfl,rfl,by omega,rfl,hi'⟩)
def dU{F:(TD->HL->Prop)->TD->HL->Prop}(n:Nat)(Inv:Nat->Prop){j0:Nat}{h:HL}{ls:TD}(hls:ls=[.i (Int.ofNat j0)])(hj:j0<=n)(hi:Inv j0)
  (step:∀j,j<=n->Inv j->∀self:TD->HL->Prop,(j<n->Inv (j+1)->self [.i (Int.ofNat j+1)] h)->F self [.i (Int.ofNat j)] h):(PH C Sg T).loop (@hid _ ⟨F⟩) ls h:=
 cF (σ:=Unit) n (λj _=>[.i (Int.ofNat j)]) (λ_ _=>h) (λj _=>Inv j) (s0:=()) hls rfl hj hi λj _ hj hi self hs=>step j hj hi self (λa b=>hs () a b)
def bc{α:Type}{h:HL}{v:Value}{e:Nat}{enc:α->Tl}{l:List α}{K:Tu}(hs:LsH h v e enc l)(hk:K (Int.ofNat l.length)):(PH C Sg T).opt (lenS v) (@hid _ ⟨K⟩):=af hs.len hk
def aV{α:Type}{h:HL}{v:Value}{e:Nat}{enc:α->Tl}{l:List α}{i:Nat}{a:α}{n:Int}{K:Te}(hs:LsH h v e enc l)(hn:n=Int.ofNat i)(hi:l[i]?=some a)(hk:K (enc a)) :
  (PH C Sg T).opt (idS e v n) (@hid _ ⟨λx=>(PH C Sg T).peek (.lg C e x) h (@hid _ ⟨K⟩)⟩):=by
 subst hn
 obtain⟨p,h1,h2⟩:=hs.at hi
 exact af h1 (ee (h2.lg (hs.1 a (qab hi))) hk)
def tz{α:Type}{h:HL}{v:Value}{e:Nat}{enc:α->Tl}{l:List α}{i:Nat}{a:α}{n:Int}{o k:Nat}{cs:Tl}{K:Te}(hs:LsH h v e enc l)(hn:n=Int.ofNat i)(hi:l[i]?=some a)(hcs:cs=((enc a).drop o).take k)(hok:o+k<=e)(hk:K cs) :
  (PH C Sg T).opt (idS e v n) (@hid _ ⟨λx=>(PH C Sg T).opt (fdP o x) (@hid _ ⟨λy=>(PH C Sg T).chk y (@hid _ ⟨(PH C Sg T).peek (.lg C k y) h (@hid _ ⟨K⟩)⟩)⟩)⟩):=by
 subst hn hcs
 obtain⟨p,h1,h2⟩:=hs.at hi
 have he:=hs.1 a (qab hi)
 have hok:o+k<=(enc a).length:=by omega
 have hlen:(((enc a).drop o).take k).length=k:=by rw[qaI,qbN];omega
 obtain⟨q,h3,h4⟩:=h2.fd o k hok
 refine af h1 (af h3 ?_)
 show aW q=true/\_
 exact⟨h4.good,ee (h4.lg hlen) hk⟩
end
end Sx
end Go.Am
namespace Go.Am
open Sx Go.Proofs
namespace St
abbrev Crs:=Int×Int×Int
def encC(c:Crs):Tl:=[.int .i64 c.1,.int .u8 c.2.1,.int .u8 c.2.2]
def isK(c:Crs):Bool:=decide (1<=c.2.2)&&decide (c.2.2<=3)
def isKind_c(k:Int):Cc 97 [.i k] [.b (decide (1<=k)&&decide (k<=3))]:=by
 refine q97 rfl ?_;unfold f97;simp only[qxh]
 by_cases h1:1<=k
 ·by_cases h2:k<=3
  ·simp(disch:=omega)only[↓qXX];simp[h1,h2]
  ·simp(disch:=omega)only[↓qXX];simp[h1,h2]
 ·simp(disch:=omega)only[↓qXX];simp[h1]
def chk1_c(c:Crs):Cc 96 [.i c.1,.i c.2.1,.i c.2.2] [.b (!isK c)]:=by
 refine q96 rfl ?_;unfold f96;simp only[qxh]
 repeat (first|simp(disch:=omega)only[↓qXX]|refine ae (isKind_c c.2.2) ?_)
 simp[isK]
abbrev clo1:Value:=.func (.func 96) ⟨[]⟩ ⟨[]⟩
def good1:aW clo1=true:=rfl
abbrev _root_.TC:=List Crs
def ur{h:HL}{x:Value}{l:TC}(hl:LsH h x 3 encC l)(hn:l.length<=4294967296):∃n:Int,aK cc ab 122 [.v x,.v clo1] (absH aa h) [.i n] (absH aa h)/\(0<=n↔∃c∈l,isK c=false):=by
 obtain⟨rs,h',h1,n,rfl,rfl,h2⟩:=x122 (K:=λrs h'=>∃n:Int,rs=[.i n]/\h'=h/\(0<=n↔∃c∈l,isK c=false)) (H:=h) (glsV hl.good (glsV good1 gls0)) (by
  unfold f122;simp only[qxh]
  refine p_x ?_
  refine bc hl ?_
  refine dU l.length (λj=>∀i,i<j->∀c,l[i]?=some c->isK c=true) rfl (qaX _) (λi hi=>absurd hi (Nat.not_lt_zero _)) ?_
  intro j hj hi self hself
  refine p_x ?_
  by_cases hlt:j<l.length
  ·have e1:Int.ofNat j<Int.ofNat l.length:=by show(j:Int)<l.length;omega
   rw[p_lss_t e1]
   refine p_x ?_
   obtain⟨c,hc⟩ : ∃c,l[j]?=some c:=⟨_,qai hlt⟩
   refine aV hl rfl hc ?_
   unfold encC
   repeat (first|simp(disch:=omega)only[↓qXX]|refine fR (lJ (chk1_c c _) rfl [.agg [.i .i64 c.1,.i .u8 c.2.1,.i .u8 c.2.2]] rfl rfl) ?_)
   cases hk:isK c with
   |true=>
    show P1.cond false _ _
    refine p_x ?_
    rw[p_add (by show -9223372036854775808<=(j:Int)+1;omega) (by show(j:Int)+1<=9223372036854775807;omega)]
    refine hself hlt λi hi' c' hc'=>?_
    rcases qaO i j with h|h
    ·exact hi i h c' hc'
    ·obtain rfl:i=j:=by omega
     rw[hc]at hc';cases hc';exact hk
   |false=>
    show P1.cond true _ _
    refine p_x ?_
    exact⟨_,rfl,by trivial,λ_=>⟨c,qab hc,hk⟩,λ_=>qav j⟩
  ·have e1:Int.ofNat l.length<=Int.ofNat j:=by show(l.length:Int)<=j;omega
   rw[p_lss_f e1]
   refine p_x ?_
   refine⟨_,rfl,by trivial,λh=>by omega,λ⟨c,hc,hk⟩=>?_⟩
   obtain⟨i,hi'⟩:=qaW hc
   have hlt':i<l.length:=by
    rcases qaO i l.length with h|h
    ·exact h
    ·rw[qaj h]at hi';cases hi'
   rw[hi i (by omega) c hi']at hk
   cases hk)
 exact⟨n,h1,h2⟩
def wX{h:HL}{x:Value}{l:TC}(hl:LsH h x 3 encC l)(hn:l.length<=4294967296):aK cc ab 95 [.v x,.v clo1] (absH aa h) [.b (!l.all isK)] (absH aa h):=by
 obtain⟨n,h1,h2⟩:=ur hl hn
 obtain⟨rs,h',h3,rfl,rfl⟩:=x95 (K:=λrs h'=>rs=[.b (!l.all isK)]/\h'=h) (H:=h) (glsV hl.good (glsV good1 gls0)) (by
  unfold f95;simp only[qxh]
  repeat (first|simp(disch:=omega)only[↓qXX]|refine am h1 ?_)
  cases hb:l.all isK with
  |true=>
   have:¬0<=n:=λh=>by
    obtain⟨c,hc,hk⟩:=h2.1 h
    rw[qag.1 hb c hc]at hk;cases hk
   simp(disch:=omega)only[↓qXX]
   trivial
  |false=>
   have:0<=n:=h2.2 (by
    obtain⟨c,hc,hk⟩:=List.all_eq_false.1 hb
    exact⟨c,hc,by simpa using hk⟩)
   simp(disch:=omega)only[↓qXX]
   trivial)
 exact h3
end St
end Go.Am
namespace Go.Am
namespace Sx
section
variable [Val]
end
section
variable [Val]
end
end Sx
end Go.Am
namespace Go.Am
open Sx Go.Proofs
def known_val{g n:Nat}{ls rs:TD}{sg:Sig}(hs:ab g=some sg)(hp:sg.plain=true)(hg:gI ls=true)(h:runF n (.f g) ls .empty tell=some rs):∀H,aK cc ab g ls H rs H:=by
 obtain⟨rs',h',a1,a2⟩:=(gP n).f g ls .empty tell rs (cI hg) h
 rw[kN]at a2
 cases a2
 exact rl g sg ls _ _ hs hp a1
def isAns(rs':TD):Option (TD)->Bool:=λo=>@Option.rec _ (λ_=>Bool) false (λrs=>eqLs rs rs') o
def known_ans{g n:Nat}{ls rs:TD}{sg:Sig}(hs:ab g=some sg)(hp:sg.plain=true)(hg:gI ls=true)(h:isAns rs (runF n (.f g) ls .empty tell)=true):∀H,aK cc ab g ls H rs H:=by
 cases e:runF n (.f g) ls .empty tell with
 |none=>rw[e]at h;cases h
 |some rs'=>
  rw[e]at h
  have h:eqLs rs' rs=true:=h
  rw[gV h]at e
  exact known_val hs hp hg e
def eqCell(a b:Value):Bool:=match a,b with
 | .int k n,.int k' n'=>dy k k'&&eqZK n n'
 | .bool t,.bool t'=>eqBK t t'
 |_,_=>false
def eqCell_ok{a b:Value}(h:eqCell a b=true):a=b/\flat b=true:=by
 unfold eqCell at h
 split at h
 ·simp only[qaa]at h
  have h2:=h.2
  rw[qw,beq_iff_eq]at h2
  rw[dw h.1,h2]
  exact⟨rfl,rfl⟩
 next a b=>
  cases a<;>cases b<;>first|exact⟨rfl,rfl⟩|cases h
 ·cases h
def qt(c:Tr Value):Tl->Nat->Bool
 | [],_=>true
 |v :: l,i=>eqCell ((bC i).get nilV c) v&&qt c l (i+1)
def oG{c:Tr Value}:∀ {l:Tl} {i:Nat},qt c l i=true->(∀j (h:j<l.length),(bC (i+j)).get nilV c=l[j])/\l.all flat=true
 | [],i,_=>⟨λj h=>by simp at h,rfl⟩
 |v :: l,i,h=>by
  simp only[qt,qaa]at h
  obtain⟨h1,h2⟩:=eqCell_ok h.1
  obtain⟨h3,h4⟩:=oG h.2
  refine⟨λj hj=>?_,by simp[h2,h4]⟩
  cases j with
  |zero=>exact h1
  |succ j=>
   have:=h3 j (by simpa using hj)
   rw[show i+(j+1)=i+1+j by omega]
   simpa using this
def nbr(w v c e:Nat):Tp:=
 match e,c%4 with
 |0,0=>if 0<c / 4 / w then some (c+2 - 4*w)else none
 |0,1=>if c / 4%w+1<w then some (c+6)else none
 |0,2=>if c / 4 / w+1<v then some (c+4*w - 2)else none
 |0,_=>if 0<c / 4%w then some (c - 6)else none
 |1,0=>some (c+1)
 |1,1=>some (c - 1)
 |1,2=>some (c+1)
 |1,_=>some (c - 1)
 |2,0=>some (c+3)
 |2,1=>some (c+1)
 |2,2=>some (c - 1)
 |2,_=>some (c - 3)
 |_,_=>none
def jI(w v:Nat):List (Nat×Nat):=(List.range (4*w*v)).flatMap λc=>(List.range 3).filterMap λe=>match nbr w v c e with
 |some n=>if c<n then some (c,e)else none
 |none=>none
end Go.Am
namespace Go.Am
namespace Sx
section
variable [Val] [Kno] {C:Cfg} {Sg:Tc} {T:Tt}
def aU{j:Nat}{K:Tu}(h:j<=4294967296):(PH C Sg T).ari .add .i64 (Int.ofNat j) 1 (@hid _ ⟨K⟩)=K (Int.ofNat j+1):=
 p_add (by show -9223372036854775808<=(j:Int)+1;omega) (by show(j:Int)+1<=9223372036854775807;omega)
def fP{j:Nat}{K:Tu}(h1:1<=j)(h:j<=4294967296):(PH C Sg T).ari .sub .i64 (Int.ofNat j) 1 (@hid _ ⟨K⟩)=K (Int.ofNat (j - 1)):=by
 rw[p_sub (by show -9223372036854775808<=(j:Int) - 1;omega) (by show(j:Int) - 1<=9223372036854775807;omega)]
 congr 1
 show(j:Int) - 1=((j - 1:Nat):Int)
 omega
def aR{j n:Nat}{K:To}(h:j<n):(PH C Sg T).cmp .lss (Int.ofNat j) (Int.ofNat n) (@hid _ ⟨K⟩)=K true:=p_lss_t (by show(j:Int)<n;omega)
def bi{j n:Nat}{K:To}(h:n<=j):(PH C Sg T).cmp .lss (Int.ofNat j) (Int.ofNat n) (@hid _ ⟨K⟩)=K false:=p_lss_f (by show(n:Int)<=j;omega)
end
def aM{α:Type}{l:List α}{i:Nat}{a:α}(h:l[i]?=some a):i<l.length:=by
 rcases qaO i l.length with h1|h1
 ·exact h1
 ·rw[qaj h1]at h;cases h
def aY{α:Type}{l:List α}{i:Nat}(h:i<l.length):∃a,l[i]?=some a:=⟨_,qai h⟩
end Sx
end Go.Am
namespace Go.Am
open Sx
def mA(t:Nat):Int:=match t with
 |0=>1|1=>0|2=>-1|3=>0|4=>-1|5=>0|6=>1|_=>0
def mB(t:Nat):Int:=match t with
 |0=>0|1=>-1|2=>0|3=>1|4=>0|5=>-1|6=>0|_=>1
def mC(t:Nat):Int:=match t with
 |0=>0|1=>1|2=>0|3=>-1|4=>0|5=>-1|6=>0|_=>1
def mD(t:Nat):Int:=match t with
 |0=>1|1=>0|2=>-1|3=>0|4=>1|5=>0|6=>-1|_=>0
def mulT(s t:Nat):Nat:=if s<4 then(if t<4 then(s+t)%4 else 4+(t+4 - s)%4)else(if t<4 then 4+(s+t)%4 else(t+8 - s)%4)
abbrev Mv:=Nat×Int×Int
def cG(a b:Mv):Mv:=(mulT a.1 b.1,mA b.1*a.2.1+mB b.1*a.2.2+b.2.1,mC b.1*a.2.1+mD b.1*a.2.2+b.2.2)
def idM:Mv:=(0,0,0)
def okM(n:Int)(m:Mv):Prop:=m.1<8/\-n<=m.2.1/\m.2.1<=n/\-n<=m.2.2/\m.2.2<=n/\(m.2.1+m.2.2)%2=0
def t8{t:Nat}(h:t<8):t=0∨t=1∨t=2∨t=3∨t=4∨t=5∨t=6∨t=7:=by omega
def gK{s t:Nat}:mulT s t<8:=by
 unfold mulT
 repeat' split
 all_goals omega
def xq{a b c:Nat}(ha:a<8)(hb:b<8)(hc:c<8):mulT (mulT a b) c=mulT a (mulT b c):=by
 have key:((List.range 8).all λa=>(List.range 8).all λb=>(List.range 8).all λc=>mulT (mulT a b) c==mulT a (mulT b c))=true:=by decide +kernel
 have h1:=qag.1 key a (qaD.2 ha)
 have h2:=qag.1 h1 b (qaD.2 hb)
 have h3:=qag.1 h2 c (qaD.2 hc)
 simpa using h3
def iV{a b c:Mv}(ha:a.1<8)(hb:b.1<8)(hc:c.1<8):cG (cG a b) c=cG a (cG b c):=by
 obtain⟨at',ax,ay⟩:=a
 obtain⟨bt,bx,by'⟩:=b
 obtain⟨ct,cx,cy⟩:=c
 simp only at ha hb hc
 unfold cG
 refine qcO (xq ha hb hc) ?_
 simp only
 clear ha
 rcases t8 hb with rfl|rfl|rfl|rfl|rfl|rfl|rfl|rfl<;>rcases t8 hc with rfl|rfl|rfl|rfl|rfl|rfl|rfl|rfl<;>
  (refine qcO ?_ ?_<;>simp[mulT,mA,mB,mC,mD]<;>omega)
def thenM_id{a:Mv}(ha:a.1<8):cG a idM=a:=by
 obtain⟨t,x,y⟩:=a
 have ha:t<8:=ha
 unfold cG idM
 simp only[mA,mB,mC,mD]
 refine qcO ?_ (qcO (by simp) (by simp))
 rcases t8 ha with rfl|rfl|rfl|rfl|rfl|rfl|rfl|rfl<;>simp[mulT]
def id_thenM{a:Mv}(ha:a.1<8):cG idM a=a:=by
 obtain⟨t,x,y⟩:=a
 have ha:t<8:=ha
 unfold cG idM
 refine qcO ?_ (qcO (by simp) (by simp))
 rcases t8 ha with rfl|rfl|rfl|rfl|rfl|rfl|rfl|rfl<;>simp[mulT]
def hQ{n k:Int}{m:Mv}(h:okM n m)(hk:n<=k):okM k m:=by
 unfold okM at *
 omega
def okM_id{n:Int}(h:0<=n):okM n idM:=by
 unfold okM idM
 simp only
 omega
def qY{n k:Int}{a b:Mv}(ha:okM n a)(hb:okM k b):okM (n+k) (cG a b):=by
 obtain⟨at',ax,ay⟩:=a
 obtain⟨bt,bx,by'⟩:=b
 unfold okM cG at *
 simp only at *
 obtain⟨a1,a2⟩:=ha
 obtain⟨b1,b2⟩:=hb
 refine⟨gK,?_⟩
 clear a1
 rcases t8 b1 with rfl|rfl|rfl|rfl|rfl|rfl|rfl|rfl<;>simp only[mA,mB,mC,mD]<;>omega
abbrev Ln:=Nat×Int
def ofM(l:Ln):Mv:=match l.1 with
 |1=>(4,2*l.2,0)
 |2=>(6,0,2*l.2)
 |3=>(5,l.2,l.2)
 |_=>(7,-l.2,l.2)
def ofM_ok{l:Ln}{n:Int}(h:-n<=l.2/\l.2<=n):okM (2*n) (ofM l):=by
 obtain⟨k,c⟩:=l
 unfold ofM okM
 simp only at h ⊢
 split<;>simp only<;>omega
def ofM_lt(l:Ln):(ofM l).1<8:=by
 unfold ofM
 split<;>simp
def ofM_twice(l:Ln):cG (ofM l) (ofM l)=idM:=by
 obtain⟨k,c⟩:=l
 unfold ofM cG idM
 simp only
 split<;>simp[mulT,mA,mB,mC,mD]<;>omega
abbrev Cl:=Int×Int×Nat
def lnC3(c:Cl)(e:Nat):Ln:=match e with
 |0=>(match c.2.2 with
  |0=>(2,c.2.1)
  |1=>(1,c.1+1)
  |2=>(2,c.2.1+1)
  |_=>(1,c.1))
 |1=>(3,c.1+c.2.1+1)
 |_=>(4,c.2.1 - c.1)
def nbC(c:Cl)(e:Nat):Cl:=match e with
 |0=>(match c.2.2 with
  |0=>(c.1,c.2.1 - 1,2)
  |1=>(c.1+1,c.2.1,3)
  |2=>(c.1,c.2.1+1,0)
  |_=>(c.1 - 1,c.2.1,1))
 |1=>(c.1,c.2.1,[1,0,3,2].getD c.2.2 0)
 |_=>(c.1,c.2.1,[3,2,1,0].getD c.2.2 0)
def qT(t q:Nat):Nat:=if t<4 then(q+t)%4 else([0,3,2,1].getD ((q+t)%4) 0+(if t%2=0 then 0 else 2))%4
def iN(m:Mv)(c:Cl):Cl:=(mA m.1*c.1+mB m.1*c.2.1+m.2.1 - (if mA m.1+mB m.1=1 then 0 else 1),mC m.1*c.1+mD m.1*c.2.1+m.2.2 - (if mC m.1+mD m.1=1 then 0 else 1),qT m.1 c.2.2)
def qT_lt{t q:Nat}:qT t q<4:=by
 unfold qT
 split<;>omega
end Go.Am
namespace Go.Am
open Sx Go.Proofs
namespace St
def ak{x y q:Int}(h:-4096<=x/\x<=4096/\-4096<=y/\y<=4096/\q<=3):Cc 43 [.i x,.i y,.i q] [.i 0]:=by
 refine q43 rfl ?_;unfold f43;simp only[qxh]
 simp(disch:=omega)only[↓qXX]
def gn00:cX gl3 4 [(0,17),(0,3)] 3=some [.int .i64 0,.int .i64 (-1),.int .u8 2]:=by kernel_rfl
def gn01:cX gl3 4 [(0,17),(1,3)] 3=some [.int .i64 0,.int .i64 0,.int .u8 1]:=by kernel_rfl
def gn02:cX gl3 4 [(0,17),(2,3)] 3=some [.int .i64 0,.int .i64 0,.int .u8 3]:=by kernel_rfl
def gn10:cX gl3 4 [(1,17),(0,3)] 3=some [.int .i64 1,.int .i64 0,.int .u8 3]:=by kernel_rfl
def gn11:cX gl3 4 [(1,17),(1,3)] 3=some [.int .i64 0,.int .i64 0,.int .u8 0]:=by kernel_rfl
def gn12:cX gl3 4 [(1,17),(2,3)] 3=some [.int .i64 0,.int .i64 0,.int .u8 2]:=by kernel_rfl
def gn20:cX gl3 4 [(2,17),(0,3)] 3=some [.int .i64 0,.int .i64 1,.int .u8 0]:=by kernel_rfl
def gn21:cX gl3 4 [(2,17),(1,3)] 3=some [.int .i64 0,.int .i64 0,.int .u8 3]:=by kernel_rfl
def gn22:cX gl3 4 [(2,17),(2,3)] 3=some [.int .i64 0,.int .i64 0,.int .u8 1]:=by kernel_rfl
def gn30:cX gl3 4 [(3,17),(0,3)] 3=some [.int .i64 (-1),.int .i64 0,.int .u8 1]:=by kernel_rfl
def gn31:cX gl3 4 [(3,17),(1,3)] 3=some [.int .i64 0,.int .i64 0,.int .u8 2]:=by kernel_rfl
def gn32:cX gl3 4 [(3,17),(2,3)] 3=some [.int .i64 0,.int .i64 0,.int .u8 0]:=by kernel_rfl
def cnb00{x y:Int}(h:-4000<=x/\x<=4000/\-4000<=y/\y<=4000):Cc 125 [.i x,.i y,.i 0,.i 0] [.i x,.i (y - 1),.i 2,.i 0]:=by
 refine q125 rfl ?_;unfold f125;simp only[qxh]
 repeat (first|simp(disch:=omega)only[↓qXX,↓gn00]|refine ae (ak (by omega)) ?_|refine af (x:=()) (by kernel_rfl) ?_)
 (try simp only[qay,Lf.i.injEq,and_true,true_and]);(try omega)
def cnb01{x y:Int}(h:-4000<=x/\x<=4000/\-4000<=y/\y<=4000):Cc 125 [.i x,.i y,.i 0,.i 1] [.i x,.i y,.i 1,.i 0]:=by
 refine q125 rfl ?_;unfold f125;simp only[qxh]
 repeat (first|simp(disch:=omega)only[↓qXX,↓gn01]|refine ae (ak (by omega)) ?_|refine af (x:=()) (by kernel_rfl) ?_)
 (try simp only[qay,Lf.i.injEq,and_true,true_and]);(try omega)
def cnb02{x y:Int}(h:-4000<=x/\x<=4000/\-4000<=y/\y<=4000):Cc 125 [.i x,.i y,.i 0,.i 2] [.i x,.i y,.i 3,.i 0]:=by
 refine q125 rfl ?_;unfold f125;simp only[qxh]
 repeat (first|simp(disch:=omega)only[↓qXX,↓gn02]|refine ae (ak (by omega)) ?_|refine af (x:=()) (by kernel_rfl) ?_)
 (try simp only[qay,Lf.i.injEq,and_true,true_and]);(try omega)
def cnb10{x y:Int}(h:-4000<=x/\x<=4000/\-4000<=y/\y<=4000):Cc 125 [.i x,.i y,.i 1,.i 0] [.i (x+1),.i y,.i 3,.i 0]:=by
 refine q125 rfl ?_;unfold f125;simp only[qxh]
 repeat (first|simp(disch:=omega)only[↓qXX,↓gn10]|refine ae (ak (by omega)) ?_|refine af (x:=()) (by kernel_rfl) ?_)
 (try simp only[qay,Lf.i.injEq,and_true,true_and]);(try omega)
def cnb11{x y:Int}(h:-4000<=x/\x<=4000/\-4000<=y/\y<=4000):Cc 125 [.i x,.i y,.i 1,.i 1] [.i x,.i y,.i 0,.i 0]:=by
 refine q125 rfl ?_;unfold f125;simp only[qxh]
 repeat (first|simp(disch:=omega)only[↓qXX,↓gn11]|refine ae (ak (by omega)) ?_|refine af (x:=()) (by kernel_rfl) ?_)
 (try simp only[qay,Lf.i.injEq,and_true,true_and]);(try omega)
def cnb12{x y:Int}(h:-4000<=x/\x<=4000/\-4000<=y/\y<=4000):Cc 125 [.i x,.i y,.i 1,.i 2] [.i x,.i y,.i 2,.i 0]:=by
 refine q125 rfl ?_;unfold f125;simp only[qxh]
 repeat (first|simp(disch:=omega)only[↓qXX,↓gn12]|refine ae (ak (by omega)) ?_|refine af (x:=()) (by kernel_rfl) ?_)
 (try simp only[qay,Lf.i.injEq,and_true,true_and]);(try omega)
def cnb20{x y:Int}(h:-4000<=x/\x<=4000/\-4000<=y/\y<=4000):Cc 125 [.i x,.i y,.i 2,.i 0] [.i x,.i (y+1),.i 0,.i 0]:=by
 refine q125 rfl ?_;unfold f125;simp only[qxh]
 repeat (first|simp(disch:=omega)only[↓qXX,↓gn20]|refine ae (ak (by omega)) ?_|refine af (x:=()) (by kernel_rfl) ?_)
 (try simp only[qay,Lf.i.injEq,and_true,true_and]);(try omega)
def cnb21{x y:Int}(h:-4000<=x/\x<=4000/\-4000<=y/\y<=4000):Cc 125 [.i x,.i y,.i 2,.i 1] [.i x,.i y,.i 3,.i 0]:=by
 refine q125 rfl ?_;unfold f125;simp only[qxh]
 repeat (first|simp(disch:=omega)only[↓qXX,↓gn21]|refine ae (ak (by omega)) ?_|refine af (x:=()) (by kernel_rfl) ?_)
 (try simp only[qay,Lf.i.injEq,and_true,true_and]);(try omega)
def cnb22{x y:Int}(h:-4000<=x/\x<=4000/\-4000<=y/\y<=4000):Cc 125 [.i x,.i y,.i 2,.i 2] [.i x,.i y,.i 1,.i 0]:=by
 refine q125 rfl ?_;unfold f125;simp only[qxh]
 repeat (first|simp(disch:=omega)only[↓qXX,↓gn22]|refine ae (ak (by omega)) ?_|refine af (x:=()) (by kernel_rfl) ?_)
 (try simp only[qay,Lf.i.injEq,and_true,true_and]);(try omega)
def cnb30{x y:Int}(h:-4000<=x/\x<=4000/\-4000<=y/\y<=4000):Cc 125 [.i x,.i y,.i 3,.i 0] [.i (x - 1),.i y,.i 1,.i 0]:=by
 refine q125 rfl ?_;unfold f125;simp only[qxh]
 repeat (first|simp(disch:=omega)only[↓qXX,↓gn30]|refine ae (ak (by omega)) ?_|refine af (x:=()) (by kernel_rfl) ?_)
 (try simp only[qay,Lf.i.injEq,and_true,true_and]);(try omega)
def cnb31{x y:Int}(h:-4000<=x/\x<=4000/\-4000<=y/\y<=4000):Cc 125 [.i x,.i y,.i 3,.i 1] [.i x,.i y,.i 2,.i 0]:=by
 refine q125 rfl ?_;unfold f125;simp only[qxh]
 repeat (first|simp(disch:=omega)only[↓qXX,↓gn31]|refine ae (ak (by omega)) ?_|refine af (x:=()) (by kernel_rfl) ?_)
 (try simp only[qay,Lf.i.injEq,and_true,true_and]);(try omega)
def cnb32{x y:Int}(h:-4000<=x/\x<=4000/\-4000<=y/\y<=4000):Cc 125 [.i x,.i y,.i 3,.i 2] [.i x,.i y,.i 0,.i 0]:=by
 refine q125 rfl ?_;unfold f125;simp only[qxh]
 repeat (first|simp(disch:=omega)only[↓qXX,↓gn32]|refine ae (ak (by omega)) ?_|refine af (x:=()) (by kernel_rfl) ?_)
 (try simp only[qay,Lf.i.injEq,and_true,true_and]);(try omega)
def Sh(w v:Nat):Prop:=1<=w/\w<=60/\v=1
def kM{w:Nat}(h:1<=w/\w<=60):Cc 94 [.i (.ofNat w),.i 1] [.i 0]:=by
 have h1:(1:Int)<=Int.ofNat w:=by show(1:Int)<=(w:Int);omega
 have h2:Int.ofNat w<=256:=by show(w:Int)<=256;omega
 refine q94 rfl ?_;unfold f94;simp only[qxh]
 generalize Int.ofNat w=a at *
 simp(disch:=omega)only[↓qXX]
def count_c{w:Nat}(h:1<=w/\w<=60):Cc 103 [.i (.ofNat w),.i 1] [.i (.ofNat (4*w))]:=by
 have h1:(1:Int)<=Int.ofNat w:=by show(1:Int)<=(w:Int);omega
 have h2:Int.ofNat w<=256:=by show(w:Int)<=256;omega
 refine q103 rfl ?_;unfold f103;simp only[qxh]
 rw[show Int.ofNat (4*w)=4*Int.ofNat w from by show((4*w:Nat):Int)=4*(w:Int);omega]
 repeat (first|simp(disch:=omega)only[↓qXX]|refine ae (kM h) ?_|rw[p_mul (by omega) (by omega)])
 rw[Int.mul_one]
def has_c{w c:Nat}(h:1<=w/\w<=60)(hc:c<4*w):Cc 107 [.i (.ofNat w),.i 1,.i (.ofNat c)] [.b true]:=by
 have h1:(1:Int)<=Int.ofNat w:=by show(1:Int)<=(w:Int);omega
 have h2:Int.ofNat w<=256:=by show(w:Int)<=256;omega
 have h3:(0:Int)<=Int.ofNat c:=qav c
 have h4:Int.ofNat c<4*Int.ofNat w:=by show(c:Int)<4*(w:Int);omega
 refine q107 rfl ?_;unfold f107;simp only[qxh]
 repeat (first|simp(disch:=omega)only[↓qXX]|rw[p_mul (by omega) (by omega)])
def vc{w c:Nat}(h:1<=w/\w<=60)(hc:c<4*w):Cc 108 [.i (.ofNat w),.i 1,.i (.ofNat c)] [.i (.ofNat (c / 4%w)),.i (.ofNat (c / 4 / w)),.i (.ofNat (c%4))]:=by
 refine q108 rfl ?_;unfold f108;simp only[qxh]
 have h3:(0:Int)<=Int.ofNat c:=qav c
 have h5:(0:Int)<Int.ofNat w:=by show(0:Int)<(w:Int);omega
 have h6:Int.ofNat c<=9223372036854775807:=by show(c:Int)<=9223372036854775807;omega
 repeat (first|simp(disch:=omega)only[↓qXX]|rw[p_quo_nn h3 (by omega) h6]|rw[show Int.ofNat c / 4=Int.ofNat (c / 4)from rfl]|rw[p_rem_nn (qav _) h5]|rw[p_quo_nn (qav _) h5 (by show((c / 4:Nat):Int)<=9223372036854775807;omega)]|rw[p_rem_nn h3 (by omega)]|rw[p_conv8 (by show(0:Int)<=((c%4:Nat):Int);omega) (by show((c%4:Nat):Int)<=255;omega)])
 rfl
def vd{w c:Nat}(h:1<=w/\w<=60)(hc:c<4*w):Cc 72 [.i (.ofNat w),.i 1,.i (.ofNat c)] [.i (.ofNat (c / 4%w)),.i (.ofNat (c / 4 / w)),.i (.ofNat (c%4)),.i 0]:=by
 refine q72 rfl ?_;unfold f72;simp only[qxh]
 repeat (first|simp(disch:=omega)only[↓qXX,qaE]|refine ae (kM h) ?_|refine ae (has_c h hc) ?_|refine ae (vc h hc) ?_)
def id_c{w s q:Nat}(h:1<=w/\w<=60)(hs:s<w)(hq:q<4):Cc 126 [.i (.ofNat w),.i 1,.i (.ofNat s),.i 0,.i (.ofNat q)] [.i (.ofNat (4*s+q)),.i 0]:=by
 have h1:(1:Int)<=Int.ofNat w:=by show(1:Int)<=(w:Int);omega
 have h2:Int.ofNat w<=256:=by show(w:Int)<=256;omega
 have h3:(0:Int)<=Int.ofNat s:=qav s
 have h4:Int.ofNat s<Int.ofNat w:=by show(s:Int)<(w:Int);omega
 have h5:(0:Int)<=Int.ofNat q:=qav q
 have h6:Int.ofNat q<=3:=by show(q:Int)<=3;omega
 have h7:Int.ofNat (4*s+q)=4*Int.ofNat s+Int.ofNat q:=by show((4*s+q:Nat):Int)=4*(s:Int)+(q:Int);omega
 rw[h7]
 refine q126 rfl ?_;unfold f126;simp only[qxh]
 have hch:=kM h
 generalize Int.ofNat w=a at *
 generalize Int.ofNat s=b at *
 generalize Int.ofNat q=d at *
 repeat (first|simp(disch:=omega)only[↓qXX]|refine ae hch ?_|refine ae (ak (by omega)) ?_|rw[p_mul (by omega) (by omega)]|rw[p_add (by omega) (by omega)])
 try simp only[Int.zero_mul,qdo]
def id_no{w:Nat}{x y q:Int}(h:1<=w/\w<=60)(hx:-4000<=x/\x<=4000/\-4000<=y/\y<=4000/\q<=3)(hn:x<0∨Int.ofNat w<=x∨y<0∨1<=y):Cc 126 [.i (.ofNat w),.i 1,.i x,.i y,.i q] [.i 0,.i 7]:=by
 refine q126 rfl ?_;unfold f126;simp only[qxh]
 have hch:=kM h
 generalize Int.ofNat w=a at *
 by_cases h1:x<0
 ·repeat (first|simp(disch:=omega)only[↓qXX]|refine ae hch ?_|refine ae (ak (by omega)) ?_)
 ·by_cases h2:a<=x
  ·repeat (first|simp(disch:=omega)only[↓qXX]|refine ae hch ?_|refine ae (ak (by omega)) ?_)
  ·by_cases h3:y<0
   ·repeat (first|simp(disch:=omega)only[↓qXX]|refine ae hch ?_|refine ae (ak (by omega)) ?_)
   ·repeat (first|simp(disch:=omega)only[↓qXX]|refine ae hch ?_|refine ae (ak (by omega)) ?_)
end St
namespace St
def clN(w n:Nat):Cl:=(Int.ofNat (n / 4%w),Int.ofNat (n / 4 / w),n%4)
def be(w v c e:Nat):TD:=match nbr w v c e with
 |some n=>[.i (.ofNat n),.i 0]
 |none=>[.i 0,.i 7]
def eS{w s q:Nat}(h:1<=w/\w<=60)(hs:s<w)(hq:q<4):Cc 72 [.i (.ofNat w),.i 1,.i (.ofNat (4*s+q))] [.i (.ofNat s),.i 0,.i (.ofNat q),.i 0]:=by
 have:=vd (w:=w) (c:=4*s+q) h (by omega)
 rw[show(4*s+q) / 4=s by omega,show(4*s+q)%4=q by omega,qbe hs,qbi hs]at this
 exact this
def nb00{w s:Nat}(h:1<=w/\w<=60)(hs:s<w):Cc 106 [.i (.ofNat w),.i 1,.i (.ofNat (4*s+0)),.i 0] (be w 1 (4*s+0) 0):=by
 have hb:(0:Int)<=Int.ofNat s/\Int.ofNat s<=100:=⟨qav s,by show(s:Int)<=100;omega⟩
 have hm:(4*s+0)%4=0:=by omega
 have hd:(4*s+0) / 4=s:=by omega
 have hsm:s%w=s:=qbe hs
 have hsd:s / w=0:=qbi hs
 have hr:be w 1 (4*s+0) 0=[.i 0,.i 7]:=by
  unfold be nbr
  simp only[hm,hd,hsd]
  rfl
 rw[hr]
 refine q106 rfl ?_;unfold f106;simp only[qxh]
 repeat (first|simp(disch:=omega)only[↓qXX]|refine ae (eS h hs (show 0<4 by omega)) ?_|refine ae (cnb00 (by omega)) ?_)
 refine ae (id_no h (by omega) (by omega)) ?_
 try simp(disch:=omega)only[↓qXX]
def nb01{w s:Nat}(h:1<=w/\w<=60)(hs:s<w):Cc 106 [.i (.ofNat w),.i 1,.i (.ofNat (4*s+0)),.i 1] (be w 1 (4*s+0) 1):=by
 have hb:(0:Int)<=Int.ofNat s/\Int.ofNat s<=100:=⟨qav s,by show(s:Int)<=100;omega⟩
 have hm:(4*s+0)%4=0:=by omega
 have hd:(4*s+0) / 4=s:=by omega
 have hsm:s%w=s:=qbe hs
 have hsd:s / w=0:=qbi hs
 have hr:be w 1 (4*s+0) 1=[.i (.ofNat (4*s+1)),.i 0]:=by
  unfold be nbr
  simp only[hm]
  try rw[show 4*s+0+1=4*s+1 by omega]
 rw[hr]
 refine q106 rfl ?_;unfold f106;simp only[qxh]
 repeat (first|simp(disch:=omega)only[↓qXX]|refine ae (eS h hs (show 0<4 by omega)) ?_|refine ae (cnb01 (by omega)) ?_)
 refine ae (id_c (s:=s) (q:=1) h hs (by omega)) ?_
 try simp(disch:=omega)only[↓qXX]
def nb02{w s:Nat}(h:1<=w/\w<=60)(hs:s<w):Cc 106 [.i (.ofNat w),.i 1,.i (.ofNat (4*s+0)),.i 2] (be w 1 (4*s+0) 2):=by
 have hb:(0:Int)<=Int.ofNat s/\Int.ofNat s<=100:=⟨qav s,by show(s:Int)<=100;omega⟩
 have hm:(4*s+0)%4=0:=by omega
 have hd:(4*s+0) / 4=s:=by omega
 have hsm:s%w=s:=qbe hs
 have hsd:s / w=0:=qbi hs
 have hr:be w 1 (4*s+0) 2=[.i (.ofNat (4*s+3)),.i 0]:=by
  unfold be nbr
  simp only[hm]
  try rw[show 4*s+0+3=4*s+3 by omega]
 rw[hr]
 refine q106 rfl ?_;unfold f106;simp only[qxh]
 repeat (first|simp(disch:=omega)only[↓qXX]|refine ae (eS h hs (show 0<4 by omega)) ?_|refine ae (cnb02 (by omega)) ?_)
 refine ae (id_c (s:=s) (q:=3) h hs (by omega)) ?_
 try simp(disch:=omega)only[↓qXX]
def nb10{w s:Nat}(h:1<=w/\w<=60)(hs:s<w):Cc 106 [.i (.ofNat w),.i 1,.i (.ofNat (4*s+1)),.i 0] (be w 1 (4*s+1) 0):=by
 have hb:(0:Int)<=Int.ofNat s/\Int.ofNat s<=100:=⟨qav s,by show(s:Int)<=100;omega⟩
 have hm:(4*s+1)%4=1:=by omega
 have hd:(4*s+1) / 4=s:=by omega
 have hsm:s%w=s:=qbe hs
 have hsd:s / w=0:=qbi hs
 by_cases hc:s+1<w
 ·have hr:be w 1 (4*s+1) 0=[.i (.ofNat (4*(s+1)+3)),.i 0]:=by
   unfold be nbr
   simp only[hm,hd,hsm,qdy hc]
   rw[show 4*s+1+6=4*(s+1)+3 by omega]
  rw[hr]
  refine q106 rfl ?_;unfold f106;simp only[qxh]
  repeat (first|simp(disch:=omega)only[↓qXX]|refine ae (eS h hs (show 1<4 by omega)) ?_|refine ae (cnb10 (by omega)) ?_)
  rw[show Int.ofNat s+1=Int.ofNat (s+1)from rfl]
  refine ae (id_c (s:=s+1) (q:=3) h (by omega) (by omega)) ?_
  try simp(disch:=omega)only[↓qXX]
 ·have hr:be w 1 (4*s+1) 0=[.i 0,.i 7]:=by
   unfold be nbr
   simp only[hm,hd,hsm,qdz hc]
  rw[hr]
  have hx:Int.ofNat s+1<0∨Int.ofNat w<=Int.ofNat s+1:=by
   show(s:Int)+1<0∨(w:Int)<=(s:Int)+1
   omega
  refine q106 rfl ?_;unfold f106;simp only[qxh]
  repeat (first|simp(disch:=omega)only[↓qXX]|refine ae (eS h hs (show 1<4 by omega)) ?_|refine ae (cnb10 (by omega)) ?_)
  refine ae (id_no h (by omega) (by rcases hx with hx|hx;exact .inl hx;exact .inr (.inl hx))) ?_
  try simp(disch:=omega)only[↓qXX]
def nb11{w s:Nat}(h:1<=w/\w<=60)(hs:s<w):Cc 106 [.i (.ofNat w),.i 1,.i (.ofNat (4*s+1)),.i 1] (be w 1 (4*s+1) 1):=by
 have hb:(0:Int)<=Int.ofNat s/\Int.ofNat s<=100:=⟨qav s,by show(s:Int)<=100;omega⟩
 have hm:(4*s+1)%4=1:=by omega
 have hd:(4*s+1) / 4=s:=by omega
 have hsm:s%w=s:=qbe hs
 have hsd:s / w=0:=qbi hs
 have hr:be w 1 (4*s+1) 1=[.i (.ofNat (4*s+0)),.i 0]:=by
  unfold be nbr
  simp only[hm]
  try rw[show 4*s+1 - 1=4*s+0 by omega]
 rw[hr]
 refine q106 rfl ?_;unfold f106;simp only[qxh]
 repeat (first|simp(disch:=omega)only[↓qXX]|refine ae (eS h hs (show 1<4 by omega)) ?_|refine ae (cnb11 (by omega)) ?_)
 refine ae (id_c (s:=s) (q:=0) h hs (by omega)) ?_
 try simp(disch:=omega)only[↓qXX]
def nb12{w s:Nat}(h:1<=w/\w<=60)(hs:s<w):Cc 106 [.i (.ofNat w),.i 1,.i (.ofNat (4*s+1)),.i 2] (be w 1 (4*s+1) 2):=by
 have hb:(0:Int)<=Int.ofNat s/\Int.ofNat s<=100:=⟨qav s,by show(s:Int)<=100;omega⟩
 have hm:(4*s+1)%4=1:=by omega
 have hd:(4*s+1) / 4=s:=by omega
 have hsm:s%w=s:=qbe hs
 have hsd:s / w=0:=qbi hs
 have hr:be w 1 (4*s+1) 2=[.i (.ofNat (4*s+2)),.i 0]:=by
  unfold be nbr
  simp only[hm]
  try rw[show 4*s+1+1=4*s+2 by omega]
 rw[hr]
 refine q106 rfl ?_;unfold f106;simp only[qxh]
 repeat (first|simp(disch:=omega)only[↓qXX]|refine ae (eS h hs (show 1<4 by omega)) ?_|refine ae (cnb12 (by omega)) ?_)
 refine ae (id_c (s:=s) (q:=2) h hs (by omega)) ?_
 try simp(disch:=omega)only[↓qXX]
def nb20{w s:Nat}(h:1<=w/\w<=60)(hs:s<w):Cc 106 [.i (.ofNat w),.i 1,.i (.ofNat (4*s+2)),.i 0] (be w 1 (4*s+2) 0):=by
 have hb:(0:Int)<=Int.ofNat s/\Int.ofNat s<=100:=⟨qav s,by show(s:Int)<=100;omega⟩
 have hm:(4*s+2)%4=2:=by omega
 have hd:(4*s+2) / 4=s:=by omega
 have hsm:s%w=s:=qbe hs
 have hsd:s / w=0:=qbi hs
 have hr:be w 1 (4*s+2) 0=[.i 0,.i 7]:=by
  unfold be nbr
  simp only[hm,hd,hsd]
  rfl
 rw[hr]
 refine q106 rfl ?_;unfold f106;simp only[qxh]
 repeat (first|simp(disch:=omega)only[↓qXX]|refine ae (eS h hs (show 2<4 by omega)) ?_|refine ae (cnb20 (by omega)) ?_)
 refine ae (id_no h (by omega) (by omega)) ?_
 try simp(disch:=omega)only[↓qXX]
def nb21{w s:Nat}(h:1<=w/\w<=60)(hs:s<w):Cc 106 [.i (.ofNat w),.i 1,.i (.ofNat (4*s+2)),.i 1] (be w 1 (4*s+2) 1):=by
 have hb:(0:Int)<=Int.ofNat s/\Int.ofNat s<=100:=⟨qav s,by show(s:Int)<=100;omega⟩
 have hm:(4*s+2)%4=2:=by omega
 have hd:(4*s+2) / 4=s:=by omega
 have hsm:s%w=s:=qbe hs
 have hsd:s / w=0:=qbi hs
 have hr:be w 1 (4*s+2) 1=[.i (.ofNat (4*s+3)),.i 0]:=by
  unfold be nbr
  simp only[hm]
  try rw[show 4*s+2+1=4*s+3 by omega]
 rw[hr]
 refine q106 rfl ?_;unfold f106;simp only[qxh]
 repeat (first|simp(disch:=omega)only[↓qXX]|refine ae (eS h hs (show 2<4 by omega)) ?_|refine ae (cnb21 (by omega)) ?_)
 refine ae (id_c (s:=s) (q:=3) h hs (by omega)) ?_
 try simp(disch:=omega)only[↓qXX]
def nb22{w s:Nat}(h:1<=w/\w<=60)(hs:s<w):Cc 106 [.i (.ofNat w),.i 1,.i (.ofNat (4*s+2)),.i 2] (be w 1 (4*s+2) 2):=by
 have hb:(0:Int)<=Int.ofNat s/\Int.ofNat s<=100:=⟨qav s,by show(s:Int)<=100;omega⟩
 have hm:(4*s+2)%4=2:=by omega
 have hd:(4*s+2) / 4=s:=by omega
 have hsm:s%w=s:=qbe hs
 have hsd:s / w=0:=qbi hs
 have hr:be w 1 (4*s+2) 2=[.i (.ofNat (4*s+1)),.i 0]:=by
  unfold be nbr
  simp only[hm]
  try rw[show 4*s+2 - 1=4*s+1 by omega]
 rw[hr]
 refine q106 rfl ?_;unfold f106;simp only[qxh]
 repeat (first|simp(disch:=omega)only[↓qXX]|refine ae (eS h hs (show 2<4 by omega)) ?_|refine ae (cnb22 (by omega)) ?_)
 refine ae (id_c (s:=s) (q:=1) h hs (by omega)) ?_
 try simp(disch:=omega)only[↓qXX]
def nb30{w s:Nat}(h:1<=w/\w<=60)(hs:s<w):Cc 106 [.i (.ofNat w),.i 1,.i (.ofNat (4*s+3)),.i 0] (be w 1 (4*s+3) 0):=by
 have hb:(0:Int)<=Int.ofNat s/\Int.ofNat s<=100:=⟨qav s,by show(s:Int)<=100;omega⟩
 have hm:(4*s+3)%4=3:=by omega
 have hd:(4*s+3) / 4=s:=by omega
 have hsm:s%w=s:=qbe hs
 have hsd:s / w=0:=qbi hs
 by_cases hc:0<s
 ·have hr:be w 1 (4*s+3) 0=[.i (.ofNat (4*(s - 1)+1)),.i 0]:=by
   unfold be nbr
   simp only[hm,hd,hsm,qdy hc]
   rw[show 4*s+3 - 6=4*(s - 1)+1 by omega]
  rw[hr]
  refine q106 rfl ?_;unfold f106;simp only[qxh]
  repeat (first|simp(disch:=omega)only[↓qXX]|refine ae (eS h hs (show 3<4 by omega)) ?_|refine ae (cnb30 (by omega)) ?_)
  rw[show Int.ofNat s - 1=Int.ofNat (s - 1)by show(s:Int) - 1=((s - 1:Nat):Int);omega]
  refine ae (id_c (s:=s - 1) (q:=1) h (by omega) (by omega)) ?_
  try simp(disch:=omega)only[↓qXX]
 ·have hr:be w 1 (4*s+3) 0=[.i 0,.i 7]:=by
   unfold be nbr
   simp only[hm,hd,hsm,qdz hc]
  rw[hr]
  have hx:Int.ofNat s - 1<0∨Int.ofNat w<=Int.ofNat s - 1:=by
   show(s:Int) - 1<0∨(w:Int)<=(s:Int) - 1
   omega
  refine q106 rfl ?_;unfold f106;simp only[qxh]
  repeat (first|simp(disch:=omega)only[↓qXX]|refine ae (eS h hs (show 3<4 by omega)) ?_|refine ae (cnb30 (by omega)) ?_)
  refine ae (id_no h (by omega) (by rcases hx with hx|hx;exact .inl hx;exact .inr (.inl hx))) ?_
  try simp(disch:=omega)only[↓qXX]
def nb31{w s:Nat}(h:1<=w/\w<=60)(hs:s<w):Cc 106 [.i (.ofNat w),.i 1,.i (.ofNat (4*s+3)),.i 1] (be w 1 (4*s+3) 1):=by
 have hb:(0:Int)<=Int.ofNat s/\Int.ofNat s<=100:=⟨qav s,by show(s:Int)<=100;omega⟩
 have hm:(4*s+3)%4=3:=by omega
 have hd:(4*s+3) / 4=s:=by omega
 have hsm:s%w=s:=qbe hs
 have hsd:s / w=0:=qbi hs
 have hr:be w 1 (4*s+3) 1=[.i (.ofNat (4*s+2)),.i 0]:=by
  unfold be nbr
  simp only[hm]
  try rw[show 4*s+3 - 1=4*s+2 by omega]
 rw[hr]
 refine q106 rfl ?_;unfold f106;simp only[qxh]
 repeat (first|simp(disch:=omega)only[↓qXX]|refine ae (eS h hs (show 3<4 by omega)) ?_|refine ae (cnb31 (by omega)) ?_)
 refine ae (id_c (s:=s) (q:=2) h hs (by omega)) ?_
 try simp(disch:=omega)only[↓qXX]
def nb32{w s:Nat}(h:1<=w/\w<=60)(hs:s<w):Cc 106 [.i (.ofNat w),.i 1,.i (.ofNat (4*s+3)),.i 2] (be w 1 (4*s+3) 2):=by
 have hb:(0:Int)<=Int.ofNat s/\Int.ofNat s<=100:=⟨qav s,by show(s:Int)<=100;omega⟩
 have hm:(4*s+3)%4=3:=by omega
 have hd:(4*s+3) / 4=s:=by omega
 have hsm:s%w=s:=qbe hs
 have hsd:s / w=0:=qbi hs
 have hr:be w 1 (4*s+3) 2=[.i (.ofNat (4*s+0)),.i 0]:=by
  unfold be nbr
  simp only[hm]
  try rw[show 4*s+3 - 3=4*s+0 by omega]
 rw[hr]
 refine q106 rfl ?_;unfold f106;simp only[qxh]
 repeat (first|simp(disch:=omega)only[↓qXX]|refine ae (eS h hs (show 3<4 by omega)) ?_|refine ae (cnb32 (by omega)) ?_)
 refine ae (id_c (s:=s) (q:=0) h hs (by omega)) ?_
 try simp(disch:=omega)only[↓qXX]
def q4{q:Nat}(h:q<4):q=0∨q=1∨q=2∨q=3:=by omega
def nb_c{w v:Nat}(h:Sh w v){c e:Nat}(hc:c<4*w*v)(he:e<3):Cc 106 [.i (.ofNat w),.i (.ofNat v),.i (.ofNat c),.i (.ofNat e)] (be w v c e):=by
 obtain⟨h1,h2,rfl⟩:=h
 have hw:1<=w/\w<=60:=⟨h1,h2⟩
 have hs:c / 4<w:=by omega
 have e1:c=4*(c / 4)+c%4:=by omega
 have he':e=0∨e=1∨e=2:=by omega
 rcases q4 (qbz c (show 0<4 by omega))with hq|hq|hq|hq<;>rw[hq]at e1<;>rw[e1]<;>rcases he' with rfl|rfl|rfl
 ·exact nb00 hw hs
 ·exact nb01 hw hs
 ·exact nb02 hw hs
 ·exact nb10 hw hs
 ·exact nb11 hw hs
 ·exact nb12 hw hs
 ·exact nb20 hw hs
 ·exact nb21 hw hs
 ·exact nb22 hw hs
 ·exact nb30 hw hs
 ·exact nb31 hw hs
 ·exact nb32 hw hs
end St
namespace St
def br{k c:Int}(h:1<=k/\k<=4/\-4096<=c/\c<=4096):Cc 62 [.i k,.i c] [.i 0]:=by
 refine q62 rfl ?_;unfold f62;simp only[qxh]
 simp(disch:=omega)only[↓qXX]
def gq0:cX gl3 0 [(0,17)] 17=some [.int .i64 0,.int .i64 (-1),.int .u8 2,.int .i64 0,.int .i64 0,.int .i64 (-1),.int .u8 2,.int .i64 0,.int .i64 0,.int .u8 1,.int .i64 0,.int .i64 0,.int .u8 3,.int .i64 0,.int .i64 0,.int .i64 2,.int .i64 0]:=by kernel_rfl
def gq1:cX gl3 0 [(1,17)] 17=some [.int .i64 1,.int .i64 0,.int .u8 1,.int .i64 1,.int .i64 1,.int .i64 0,.int .u8 3,.int .i64 0,.int .i64 0,.int .u8 0,.int .i64 0,.int .i64 0,.int .u8 2,.int .i64 2,.int .i64 2,.int .i64 2,.int .i64 0]:=by kernel_rfl
def gq2:cX gl3 0 [(2,17)] 17=some [.int .i64 0,.int .i64 1,.int .u8 2,.int .i64 1,.int .i64 0,.int .i64 1,.int .u8 0,.int .i64 0,.int .i64 0,.int .u8 3,.int .i64 0,.int .i64 0,.int .u8 1,.int .i64 2,.int .i64 2,.int .i64 0,.int .i64 2]:=by kernel_rfl
def gq3:cX gl3 0 [(3,17)] 17=some [.int .i64 (-1),.int .i64 0,.int .u8 1,.int .i64 0,.int .i64 (-1),.int .i64 0,.int .u8 1,.int .i64 0,.int .i64 0,.int .u8 2,.int .i64 0,.int .i64 0,.int .u8 0,.int .i64 0,.int .i64 0,.int .i64 0,.int .i64 2]:=by kernel_rfl
def cln00{x y:Int}(h:-1000<=x/\x<=1000/\-1000<=y/\y<=1000):Cc 124 [.i x,.i y,.i 0,.i 0] [.i 2,.i y,.i 0]:=by
 refine q124 rfl ?_;unfold f124;simp only[qxh]
 repeat (first|simp(disch:=omega)only[↓qXX,↓gq0]|refine ae (ak (by omega)) ?_|refine ae (br (by omega)) ?_|refine af (x:=()) (by kernel_rfl) ?_)
 (try simp only[qay,Lf.i.injEq,and_true,true_and]);(try omega)
def cln01{x y:Int}(h:-1000<=x/\x<=1000/\-1000<=y/\y<=1000):Cc 124 [.i x,.i y,.i 0,.i 1] [.i 3,.i (x+y+1),.i 0]:=by
 refine q124 rfl ?_;unfold f124;simp only[qxh]
 repeat (first|simp(disch:=omega)only[↓qXX,↓gq0]|refine ae (ak (by omega)) ?_|refine ae (br (by omega)) ?_|refine af (x:=()) (by kernel_rfl) ?_)
 (try simp only[qay,Lf.i.injEq,and_true,true_and]);(try omega)
def cln02{x y:Int}(h:-1000<=x/\x<=1000/\-1000<=y/\y<=1000):Cc 124 [.i x,.i y,.i 0,.i 2] [.i 4,.i (y - x),.i 0]:=by
 refine q124 rfl ?_;unfold f124;simp only[qxh]
 repeat (first|simp(disch:=omega)only[↓qXX,↓gq0]|refine ae (ak (by omega)) ?_|refine ae (br (by omega)) ?_|refine af (x:=()) (by kernel_rfl) ?_)
 (try simp only[qay,Lf.i.injEq,and_true,true_and]);(try omega)
def cln10{x y:Int}(h:-1000<=x/\x<=1000/\-1000<=y/\y<=1000):Cc 124 [.i x,.i y,.i 1,.i 0] [.i 1,.i (x+1),.i 0]:=by
 refine q124 rfl ?_;unfold f124;simp only[qxh]
 repeat (first|simp(disch:=omega)only[↓qXX,↓gq1]|refine ae (ak (by omega)) ?_|refine ae (br (by omega)) ?_|refine af (x:=()) (by kernel_rfl) ?_)
 (try simp only[qay,Lf.i.injEq,and_true,true_and]);(try omega)
def cln11{x y:Int}(h:-1000<=x/\x<=1000/\-1000<=y/\y<=1000):Cc 124 [.i x,.i y,.i 1,.i 1] [.i 3,.i (x+y+1),.i 0]:=by
 refine q124 rfl ?_;unfold f124;simp only[qxh]
 repeat (first|simp(disch:=omega)only[↓qXX,↓gq1]|refine ae (ak (by omega)) ?_|refine ae (br (by omega)) ?_|refine af (x:=()) (by kernel_rfl) ?_)
 (try simp only[qay,Lf.i.injEq,and_true,true_and]);(try omega)
def cln12{x y:Int}(h:-1000<=x/\x<=1000/\-1000<=y/\y<=1000):Cc 124 [.i x,.i y,.i 1,.i 2] [.i 4,.i (y - x),.i 0]:=by
 refine q124 rfl ?_;unfold f124;simp only[qxh]
 repeat (first|simp(disch:=omega)only[↓qXX,↓gq1]|refine ae (ak (by omega)) ?_|refine ae (br (by omega)) ?_|refine af (x:=()) (by kernel_rfl) ?_)
 (try simp only[qay,Lf.i.injEq,and_true,true_and]);(try omega)
def cln20{x y:Int}(h:-1000<=x/\x<=1000/\-1000<=y/\y<=1000):Cc 124 [.i x,.i y,.i 2,.i 0] [.i 2,.i (y+1),.i 0]:=by
 refine q124 rfl ?_;unfold f124;simp only[qxh]
 repeat (first|simp(disch:=omega)only[↓qXX,↓gq2]|refine ae (ak (by omega)) ?_|refine ae (br (by omega)) ?_|refine af (x:=()) (by kernel_rfl) ?_)
 (try simp only[qay,Lf.i.injEq,and_true,true_and]);(try omega)
def cln21{x y:Int}(h:-1000<=x/\x<=1000/\-1000<=y/\y<=1000):Cc 124 [.i x,.i y,.i 2,.i 1] [.i 3,.i (x+y+1),.i 0]:=by
 refine q124 rfl ?_;unfold f124;simp only[qxh]
 repeat (first|simp(disch:=omega)only[↓qXX,↓gq2]|refine ae (ak (by omega)) ?_|refine ae (br (by omega)) ?_|refine af (x:=()) (by kernel_rfl) ?_)
 (try simp only[qay,Lf.i.injEq,and_true,true_and]);(try omega)
def cln22{x y:Int}(h:-1000<=x/\x<=1000/\-1000<=y/\y<=1000):Cc 124 [.i x,.i y,.i 2,.i 2] [.i 4,.i (y - x),.i 0]:=by
 refine q124 rfl ?_;unfold f124;simp only[qxh]
 repeat (first|simp(disch:=omega)only[↓qXX,↓gq2]|refine ae (ak (by omega)) ?_|refine ae (br (by omega)) ?_|refine af (x:=()) (by kernel_rfl) ?_)
 (try simp only[qay,Lf.i.injEq,and_true,true_and]);(try omega)
def cln30{x y:Int}(h:-1000<=x/\x<=1000/\-1000<=y/\y<=1000):Cc 124 [.i x,.i y,.i 3,.i 0] [.i 1,.i x,.i 0]:=by
 refine q124 rfl ?_;unfold f124;simp only[qxh]
 repeat (first|simp(disch:=omega)only[↓qXX,↓gq3]|refine ae (ak (by omega)) ?_|refine ae (br (by omega)) ?_|refine af (x:=()) (by kernel_rfl) ?_)
 (try simp only[qay,Lf.i.injEq,and_true,true_and]);(try omega)
def cln31{x y:Int}(h:-1000<=x/\x<=1000/\-1000<=y/\y<=1000):Cc 124 [.i x,.i y,.i 3,.i 1] [.i 3,.i (x+y+1),.i 0]:=by
 refine q124 rfl ?_;unfold f124;simp only[qxh]
 repeat (first|simp(disch:=omega)only[↓qXX,↓gq3]|refine ae (ak (by omega)) ?_|refine ae (br (by omega)) ?_|refine af (x:=()) (by kernel_rfl) ?_)
 (try simp only[qay,Lf.i.injEq,and_true,true_and]);(try omega)
def cln32{x y:Int}(h:-1000<=x/\x<=1000/\-1000<=y/\y<=1000):Cc 124 [.i x,.i y,.i 3,.i 2] [.i 4,.i (y - x),.i 0]:=by
 refine q124 rfl ?_;unfold f124;simp only[qxh]
 repeat (first|simp(disch:=omega)only[↓qXX,↓gq3]|refine ae (ak (by omega)) ?_|refine ae (br (by omega)) ?_|refine af (x:=()) (by kernel_rfl) ?_)
 (try simp only[qay,Lf.i.injEq,and_true,true_and]);(try omega)
def clS{w s q:Nat}(hs:s<w)(hq:q<4):clN w (4*s+q)=(Int.ofNat s,0,q):=by
 unfold clN
 rw[show(4*s+q) / 4=s by omega,show(4*s+q)%4=q by omega,qbe hs,qbi hs]
 rfl
def line_q{s q e:Nat}(hs:s<=100)(hq:q<4)(he:e<3):Cc 124 [.i (.ofNat s),.i 0,.i (.ofNat q),.i (.ofNat e)] [.i (.ofNat (lnC3 (Int.ofNat s,0,q) e).1),.i (lnC3 (Int.ofNat s,0,q) e).2,.i 0]:=by
 have hb:(-1000:Int)<=Int.ofNat s/\Int.ofNat s<=1000/\(-1000:Int)<=0/\(0:Int)<=1000:=⟨by have:=qav s;show(-1000:Int)<=(s:Int);omega,by show(s:Int)<=1000;omega,by omega,by omega⟩
 have he':e=0∨e=1∨e=2:=by omega
 rcases q4 hq with rfl|rfl|rfl|rfl<;>rcases he' with rfl|rfl|rfl
 ·exact cln00 hb
 ·exact cln01 hb
 ·exact cln02 hb
 ·exact cln10 hb
 ·exact cln11 hb
 ·exact cln12 hb
 ·exact cln20 hb
 ·exact cln21 hb
 ·exact cln22 hb
 ·exact cln30 hb
 ·exact cln31 hb
 ·exact cln32 hb
def nbrQ(w s q e:Nat):Tp:=match e,q with
 |0,0=>none
 |0,1=>if s+1<w then some (4*(s+1)+3)else none
 |0,2=>none
 |0,_=>if 0<s then some (4*(s - 1)+1)else none
 |1,0=>some (4*s+1)
 |1,1=>some (4*s+0)
 |1,2=>some (4*s+3)
 |1,_=>some (4*s+2)
 |2,0=>some (4*s+3)
 |2,1=>some (4*s+2)
 |2,2=>some (4*s+1)
 |2,_=>some (4*s+0)
 |_,_=>none
def eO{w s q e:Nat}(hs:s<w)(hq:q<4):nbr w 1 (4*s+q) e=nbrQ w s q e:=by
 have hm:(4*s+q)%4=q:=by omega
 have hd:(4*s+q) / 4=s:=by omega
 have hsm:s%w=s:=qbe hs
 have hsd:s / w=0:=qbi hs
 unfold nbr nbrQ
 rw[hm,hd,hsm,hsd]
 rcases q4 hq with rfl|rfl|rfl|rfl<;>rcases e with _|_|_|e<;>simp
 ·split
  ·rw[show 4*s+1+6=4*(s+1)+3 by omega]
  ·rfl
 ·split
  ·rw[show 4*s - 3=4*(s - 1)+1 by omega]
  ·rfl
def Sh.q{w v:Nat}(h:Sh w v){c:Nat}(hc:c<4*w*v):v=1/\(1<=w/\w<=60)/\∃s q,c=4*s+q/\s<w/\q<4:=by
 obtain⟨h1,h2,rfl⟩:=h
 exact⟨rfl,⟨h1,h2⟩,c / 4,c%4,by omega,by omega,by omega⟩
def nb_ok{w v:Nat}(h:Sh w v){c e n:Nat}(hc:c<4*w*v)(he:e<3)(hn:nbr w v c e=some n):n<4*w*v/\nbr w v n e=some c/\lnC3 (clN w c) e=lnC3 (clN w n) e/\clN w n=nbC (clN w c) e/\n≠c:=by
 obtain⟨rfl,hw,s,q,rfl,hs,hq⟩:=h.q hc
 have he':e=0∨e=1∨e=2:=by omega
 have hn0:=hn
 rw[eO hs hq]at hn
 rcases q4 hq with rfl|rfl|rfl|rfl<;>rcases he' with rfl|rfl|rfl<;>unfold nbrQ at hn<;>simp only at hn
 ·cases hn
 ·obtain rfl:=qae hn
  rw[eO hs (by omega),clS hs (by omega),clS hs (by omega)]
  exact⟨by omega,rfl,rfl,rfl,by omega⟩
 ·obtain rfl:=qae hn
  rw[eO hs (by omega),clS hs (by omega),clS hs (by omega)]
  exact⟨by omega,rfl,rfl,rfl,by omega⟩
 ·split at hn
  next h1=>
   obtain rfl:=qae hn
   rw[eO h1 (by omega),clS hs (by omega),clS h1 (by omega)]
   refine⟨by omega,?_,?_,rfl,by omega⟩
   ·unfold nbrQ
    simp only[qcs]
    rw[qdy (by omega)]
   ·rfl
  ·cases hn
 ·obtain rfl:=qae hn
  rw[eO hs (by omega),clS hs (by omega),clS hs (by omega)]
  exact⟨by omega,rfl,rfl,rfl,by omega⟩
 ·obtain rfl:=qae hn
  rw[eO hs (by omega),clS hs (by omega),clS hs (by omega)]
  exact⟨by omega,rfl,rfl,rfl,by omega⟩
 ·cases hn
 ·obtain rfl:=qae hn
  rw[eO hs (by omega),clS hs (by omega),clS hs (by omega)]
  exact⟨by omega,rfl,rfl,rfl,by omega⟩
 ·obtain rfl:=qae hn
  rw[eO hs (by omega),clS hs (by omega),clS hs (by omega)]
  exact⟨by omega,rfl,rfl,rfl,by omega⟩
 ·split at hn
  next h1=>
   obtain rfl:=qae hn
   obtain⟨u,rfl⟩ : ∃u,s=u+1:=⟨s - 1,by omega⟩
   simp only[qcs]
   rw[eO (s:=u) (by omega) (by omega),clS hs (by omega),clS (s:=u) (by omega) (by omega)]
   refine⟨by omega,?_,?_,?_,by omega⟩
   ·unfold nbrQ
    simp only
    rw[qdy hs]
   ·rfl
   ·unfold nbC
    simp only
    rw[show Int.ofNat (u+1) - 1=Int.ofNat u by show((u+1:Nat):Int) - 1=(u:Int);omega]
  ·cases hn
 ·obtain rfl:=qae hn
  rw[eO hs (by omega),clS hs (by omega),clS hs (by omega)]
  exact⟨by omega,rfl,rfl,rfl,by omega⟩
 ·obtain rfl:=qae hn
  rw[eO hs (by omega),clS hs (by omega),clS hs (by omega)]
  exact⟨by omega,rfl,rfl,rfl,by omega⟩
def ln_ok{w v:Nat}(h:Sh w v){c e:Nat}(hc:c<4*w*v)(he:e<3):1<=(lnC3 (clN w c) e).1/\(lnC3 (clN w c) e).1<=4/\-61<=(lnC3 (clN w c) e).2/\(lnC3 (clN w c) e).2<=61:=by
 obtain⟨rfl,hw,s,q,rfl,hs,hq⟩:=h.q hc
 rw[clS hs hq]
 have h0:(0:Int)<=Int.ofNat s/\Int.ofNat s<=59:=⟨qav s,by show(s:Int)<=59;omega⟩
 have he':e=0∨e=1∨e=2:=by omega
 rcases q4 hq with rfl|rfl|rfl|rfl<;>rcases he' with rfl|rfl|rfl<;>simp only[lnC3]<;>omega
def net_all{w v:Nat}(h:Sh w v){P:Nat->Prop}(h0:P 0)(hs:∀c e n,c<4*w*v->e<3->nbr w v c e=some n->P c->P n):∀n,n<4*w*v->P n:=by
 obtain⟨h1,h2,rfl⟩:=h
 have sq:∀s,s<w->(P (4*s+0)∨P (4*s+3))->∀q,q<4->P (4*s+q):=by
  intro s hsw hp
  have g:∀q e p,q<4->e<3->nbr w 1 (4*s+q) e=some (4*s+p)->P (4*s+q)->P (4*s+p):=λq e p hq he hn hp=>hs _ e _ (by omega) he hn hp
  have p0:P (4*s+0):=by
   rcases hp with hp|hp
   ·exact hp
   ·exact g 3 2 0 (by omega) (by omega) (by rw[eO hsw (by omega)];rfl) hp
  have p1:P (4*s+1):=g 0 1 1 (by omega) (by omega) (by rw[eO hsw (by omega)];rfl) p0
  have p3:P (4*s+3):=g 0 2 3 (by omega) (by omega) (by rw[eO hsw (by omega)];rfl) p0
  have p2:P (4*s+2):=g 1 2 2 (by omega) (by omega) (by rw[eO hsw (by omega)];rfl) p1
  intro q hq
  rcases q4 hq with rfl|rfl|rfl|rfl
  ·exact p0
  ·exact p1
  ·exact p2
  ·exact p3
 have all:∀s,s<w->∀q,q<4->P (4*s+q):=by
  intro s
  induction s with
  |zero=>exact λhsw=>sq 0 hsw (.inl h0)
  |succ s ih=>
   intro hsw
   have:=ih (by omega) 1 (by omega)
   exact sq (s+1) hsw (.inr (hs _ 0 _ (by omega) (by omega) (by rw[eO (by omega) (by omega)];exact qdy hsw) this))
 intro n hn
 have:=all (n / 4) (by omega) (n%4) (by omega)
 rwa [show 4*(n / 4)+n%4=n by omega]at this
def vI{w v c e n:Nat}(hc:c<4*w*v)(he:e<3)(hn:nbr w v c e=some n)(hlt:c<n):(c,e)∈jI w v:=by
 unfold jI
 rw[qbH]
 refine⟨c,qaD.2 hc,qbA.2 ⟨e,qaD.2 he,?_⟩⟩
 simp[hn,hlt]
def wG{w v c e:Nat}(h:(c,e)∈jI w v):c<4*w*v/\e<3/\∃n,nbr w v c e=some n/\c<n:=by
 unfold jI at h
 rw[qbH]at h
 obtain⟨c',h1,h2⟩:=h
 obtain⟨e',h3,h4⟩:=qbA.1 h2
 split at h4
 next n hn=>
  split at h4
  next hlt=>
   simp only[qas,qb6]at h4
   obtain⟨rfl,rfl⟩:=h4
   exact⟨qaD.1 h1,qaD.1 h3,n,hn,hlt⟩
  ·cases h4
 ·cases h4
def name_nb{w v:Nat}(h:Sh w v){c e n:Nat}(hc:c<4*w*v)(he:e<3)(hn:nbr w v c e=some n):(min c n,e)∈jI w v/\lnC3 (clN w (min c n)) e=lnC3 (clN w c) e:=by
 obtain⟨g1,g2,g3,_,g5⟩:=nb_ok h hc he hn
 rcases qaO c n with hlt|hge
 ·rw[qa8 (by omega)]
  exact⟨vI hc he hn hlt,rfl⟩
 ·rw[qbW hge]
  exact⟨vI g1 he g2 (by omega),g3.symm⟩
def name_c{w v:Nat}(h:Sh w v){c e n:Nat}(hc:c<4*w*v)(he:e<3)(hn:nbr w v c e=some n):Cc 98 [.i (.ofNat w),.i (.ofNat v),.i (.ofNat c),.i (.ofNat e)] [.i (.ofNat (min c n)),.i (.ofNat e),.i 0]:=by
 have hnb:=nb_c h hc he
 unfold be at hnb
 rw[hn]at hnb
 refine q98 rfl ?_;unfold f98;simp only[qxh]
 refine p_x ?_
 refine ae hnb ?_
 refine p_x ?_
 by_cases hlt:n<c
 ·rw[aR hlt]
  refine p_x ?_
  rw[qbW (by omega)]
 ·rw[bi (by omega)]
  refine p_x ?_
  rw[qa8 (by omega)]
def ln_c{w v:Nat}(h:Sh w v){u e:Nat}(hu:(u,e)∈jI w v):Cc 105 [.i (.ofNat w),.i (.ofNat v),.i (.ofNat u),.i (.ofNat e)] [.i (.ofNat (lnC3 (clN w u) e).1),.i (lnC3 (clN w u) e).2,.i 0]:=by
 obtain⟨hc,he,n,hn,hlt⟩:=wG hu
 have hnm:=name_c h hc he hn
 rw[qa8 (by omega)]at hnm
 obtain⟨rfl,hw,s,q,rfl,hs,hq⟩:=h.q hc
 have hcell:=vc (c:=4*s+q) hw (by omega)
 rw[show(4*s+q) / 4=s by omega,show(4*s+q)%4=q by omega,qbe hs,qbi hs]at hcell
 rw[clS hs hq]
 have hnamed:Cc 123 [.i (.ofNat w),.i 1,.i (.ofNat (4*s+q)),.i (.ofNat e)] [.i (.ofNat s),.i 0,.i (.ofNat q),.i 0]:=by
  refine q123 rfl ?_;unfold f123;simp only[qxh]
  refine p_x ?_
  refine ae (kM hw) ?_
  refine p_x ?_
  refine ae hnm ?_
  refine p_x ?_
  simp(disch:=omega)only[↓qXX,qaE]
  refine ae hcell ?_
  refine p_x ?_
  rfl
 refine q105 rfl ?_;unfold f105;simp only[qxh]
 refine p_x ?_
 refine ae hnamed ?_
 refine p_x ?_
 refine ae (line_q (by omega) hq he) ?_
 simp(disch:=omega)only[↓qXX]
end St
namespace St
def toldA(f:TM)(ls rs:TD):Bool:=isAns rs (runF 60 (.f f) ls .empty tell)
def uT{f:TM}{ls rs:TD}{sg:Sig}(h:toldA f ls rs=true)(hs:ab f=some sg)(hp:sg.plain=true)(hg:gI ls=true):Cc f ls rs:=known_ans (n:=60) hs hp hg h
abbrev mvl(m:Mv):TD:=[.i (Int.ofNat m.1),.i m.2.1,.i m.2.2]
abbrev cll(c:Cl):TD:=[.i c.1,.i c.2.1,.i (Int.ofNat c.2.2)]
def lF{n:Int}(h:-16384<=n/\n<=16384):Cc 101 [.i n] [.b false]:=by
 refine q101 rfl ?_;unfold f101;simp only[qxh]
 repeat (first|simp(disch:=omega)only[↓qXX])
 try rfl
def mchk_c{t x y:Int}(ht:0<=t/\t<8)(hx:-16384<=x/\x<=16384)(hy:-16384<=y/\y<=16384)(hp:(x+y)%2=0):Cc 70 [.i t,.i x,.i y] [.i 0]:=by
 refine q70 rfl ?_;unfold f70;simp only[qxh]
 rcases Int.le_total 0 (x+y)with hs|hs
 ·repeat (first|simp(disch:=omega)only[↓qXX]|refine ae (lF hx) ?_|refine ae (lF hy) ?_|rw[p_rem_nn hs (by omega)])
 ·have h0:-(-(x+y)%2)=0:=by omega
  repeat (first|simp(disch:=omega)only[↓qXX]|refine ae (lF hx) ?_|refine ae (lF hy) ?_|rw[p_rem_np hs (by omega)])
def xo{n:Int}{m:Mv}(h:okM n m)(hn:n<=16384):Cc 70 (mvl m) [.i 0]:=by
 obtain⟨h1,h2,h3,h4,h5,h6⟩:=h
 exact mchk_c ⟨qav _,by show(m.1:Int)<8;omega⟩ (by omega) (by omega) h6
def pick_t{t:Nat}(h:t<8):cX gl2 0 [(Int.ofNat t,4)] 4=some [.int .i64 (mA t),.int .i64 (mB t),.int .i64 (mC t),.int .i64 (mD t)]:=by
 rcases t8 h with rfl|rfl|rfl|rfl|rfl|rfl|rfl|rfl<;>kernel_rfl
def inB_t{n t:Nat}(h:t<n):inB n (Int.ofNat t)=some ():=by
 show(match Nat.blt t n with
  |true=>some ()
  |false=>none)=some ()
 rw[show Nat.blt t n=true by rw[qbc];exact h]
def mof_c{t:Nat}(ht:t<8){x y:Int}(h:-200000<=x/\x<=200000/\-200000<=y/\y<=200000):Cc 109 [.i (mA t),.i (mB t),.i (mC t),.i (mD t),.i x,.i y] [.i (mA t*x+mB t*y),.i (mC t*x+mD t*y)]:=by
 rcases t8 ht with rfl|rfl|rfl|rfl|rfl|rfl|rfl|rfl
 all_goals
  simp only[mA,mB,mC,mD]
  refine q109 rfl ?_;unfold f109;simp only[qxh]
  repeat (first|simp(disch:=omega)only[↓qXX])
  (try simp only[qay,Lf.i.injEq,and_true,true_and]);(try omega)
def thenT(s t:Nat):Bool:=toldA 112 [.i (mA s),.i (mB s),.i (mC s),.i (mD s),.i (mA t),.i (mB t),.i (mC t),.i (mD t)] [.i (mA (mulT s t)),.i (mB (mulT s t)),.i (mC (mulT s t)),.i (mD (mulT s t))]
def numT(t:Nat):Bool:=toldA 111 [.i (mA t),.i (mB t),.i (mC t),.i (mD t)] [.i (.ofNat t)]
def wC:((List.range 8).all λs=>numT s&&(List.range 8).all λt=>thenT s t)=true:=by kernel_rfl
def thenT_c{s t:Nat}(hs:s<8)(ht:t<8):Cc 112 [.i (mA s),.i (mB s),.i (mC s),.i (mD s),.i (mA t),.i (mB t),.i (mC t),.i (mD t)] [.i (mA (mulT s t)),.i (mB (mulT s t)),.i (mC (mulT s t)),.i (mD (mulT s t))]:=by
 have h:=qag.1 wC s (qaD.2 hs)
 rw[qaa]at h
 exact uT (qag.1 h.2 t (qaD.2 ht)) rfl (by kernel_rfl) rfl
def numT_c{t:Nat}(ht:t<8):Cc 111 [.i (mA t),.i (mB t),.i (mC t),.i (mD t)] [.i (.ofNat t)]:=by
 have h:=qag.1 wC t (qaD.2 ht)
 rw[qaa]at h
 exact uT h.1 rfl (by kernel_rfl) rfl
def limited_c{m:Mv}{n:Int}(h:okM n m)(hn:n<=16384):Cc 110 (mvl m) (mvl m++[.i 0]):=by
 refine q110 rfl ?_;unfold f110;simp only[qxh]
 repeat (first|simp(disch:=omega)only[↓qXX]|refine ae (xo h hn) ?_)
 rfl
def then_c{a b:Mv}{n k:Int}(ha:okM n a)(hb:okM k b)(hn:0<=n/\0<=k/\n+k<=16384):Cc 73 (mvl a++mvl b) (mvl (cG a b)++[.i 0]):=by
 have h0:=qY ha hb
 refine q73 rfl ?_;unfold f73;simp only[qxh]
 simp only[mvl,qa2,qaS]
 repeat (first|simp(disch:=omega)only[↓qXX]|refine ae (xo ha (by omega)) ?_|refine ae (xo hb (by omega)) ?_|refine af (inB_t hb.1) ?_|refine af (pick_t hb.1) ?_|refine ae (mof_c hb.1 ⟨by have:=ha.2;omega,by have:=ha.2;omega,by have:=ha.2;omega,by have:=ha.2;omega⟩) ?_|refine af (inB_t ha.1) ?_|refine af (pick_t ha.1) ?_|refine ae (thenT_c ha.1 hb.1) ?_|refine ae (numT_c gK) ?_)
 have hz:∀z:Int,(-n<=z/\z<=n)∨True:=λ_=>.inr trivial
 obtain⟨h1,h2,h3,h4,h5,h6⟩:=h0
 unfold cG at h2 h3 h4 h5
 simp only at h2 h3 h4 h5
 rw[p_add (by omega) (by omega),p_add (by omega) (by omega)]
 refine ae (limited_c (m:=cG a b) ⟨h1,h2,h3,h4,h5,h6⟩ (by omega)) ?_
 simp only[mvl,qa2,qaS]
 refine p_x ?_
 rfl
def lchk_c{k c:Int}(hk:1<=k/\k<=4)(hc:-4096<=c/\c<=4096):Cc 62 [.i k,.i c] [.i 0]:=by
 refine q62 rfl ?_;unfold f62;simp only[qxh]
 repeat (first|simp(disch:=omega)only[↓qXX])
 try rfl
def of1_c{k c:Int}{m:Mv}(hk:1<=k/\k<=4)(hc:-4096<=c/\c<=4096)(hm:m=ofM (k.toNat,c)):Cc 49 [.i k,.i c] (mvl m++[.i 0]):=by
 subst hm
 obtain rfl|rfl|rfl|rfl:k=1∨k=2∨k=3∨k=4:=by omega
 all_goals
  refine q49 rfl ?_;unfold f49;simp only[qxh]
  repeat (first|simp(disch:=omega)only[↓qXX]|refine ae (lchk_c (by omega) (by omega)) ?_)
  simp[ofM]
def mlof_c{l:Ln}(hk:1<=l.1/\l.1<=4)(hc:-4096<=l.2/\l.2<=4096):Cc 49 [.i (Int.ofNat l.1),.i l.2] (mvl (ofM l)++[.i 0]):=
 of1_c (k:=Int.ofNat l.1) ⟨by show(1:Int)<=(l.1:Int);omega,by show(l.1:Int)<=4;omega⟩ hc rfl
def pchk_c{x y:Int}(h:-65536<=x/\x<=65536/\-65536<=y/\y<=65536):Cc 131 [.i x,.i y] [.i 0]:=by
 refine q131 rfl ?_;unfold f131;simp only[qxh]
 repeat (first|simp(disch:=omega)only[↓qXX])
 try rfl
def ptM(m:Mv)(x y:Int):Int×Int:=(mA m.1*x+mB m.1*y+2*m.2.1,mC m.1*x+mD m.1*y+2*m.2.2)
def lin_rng{t:Nat}(ht:t<8){n x y:Int}(h:-n<=x/\x<=n/\-n<=y/\y<=n):-n<=mA t*x+mB t*y/\mA t*x+mB t*y<=n/\-n<=mC t*x+mD t*y/\mC t*x+mD t*y<=n:=by
 rcases t8 ht with rfl|rfl|rfl|rfl|rfl|rfl|rfl|rfl<;>simp only[mA,mB,mC,mD]<;>omega
def point_c{m:Mv}(hm:okM 16384 m){x y:Int}(h:-8000<=x/\x<=8000/\-8000<=y/\y<=8000):Cc 128 (mvl m++[.i x,.i y]) [.i (ptM m x y).1,.i (ptM m x y).2,.i 0]:=by
 have hr:=lin_rng hm.1 h
 have hm2:=hm.2
 refine q128 rfl ?_;unfold f128;simp only[qxh]
 simp only[mvl,qa2,qaS]
 repeat (first|simp(disch:=omega)only[↓qXX]|refine ae (xo hm (by omega)) ?_|refine ae (pchk_c (by omega)) ?_|refine af (inB_t hm.1) ?_|refine af (pick_t hm.1) ?_|refine ae (mof_c hm.1 (by omega)) ?_)
 rfl
def sa{c:Cl}(h:-4096<=c.1/\c.1<=4096/\-4096<=c.2.1/\c.2.1<=4096/\c.2.2<4):Cc 43 (cll c) [.i 0]:=by
 have hq:(Int.ofNat c.2.2)<=3:=by show(c.2.2:Int)<=3;omega
 refine q43 rfl ?_;unfold f43;simp only[qxh]
 repeat (first|simp(disch:=omega)only[↓qXX])
 try rfl
def middle_c{x y q:Int}(h:-1000000<=x/\x<=1000000/\-1000000<=y/\y<=1000000):Cc 127 [.i x,.i y,.i q] [.i (2*x+1),.i (2*y+1)]:=by
 refine q127 rfl ?_;unfold f127;simp only[qxh]
 repeat (first|simp(disch:=omega)only[↓qXX])
 (try simp only[qay,Lf.i.injEq,and_true,true_and]);(try omega)
def sdX(q:Nat):Int:=[0,1,0,-1].getD q 0
def sdY(q:Nat):Int:=[-1,0,1,0].getD q 0
def pick_q{q:Nat}(h:q<4):cX gl3 0 [(Int.ofNat q,17)] 2=some [.int .i64 (sdX q),.int .i64 (sdY q)]:=by
 obtain rfl|rfl|rfl|rfl:q=0∨q=1∨q=2∨q=3:=by omega
 all_goals kernel_rfl
def moved_c{m:Mv}(hm:okM 16384 m){c:Cl}(hc:-1000<=c.1/\c.1<=1000/\-1000<=c.2.1/\c.2.1<=1000/\c.2.2<4):Cc 113 (mvl m++cll c) (cll (iN m c)):=by
 obtain⟨t,mx,my⟩:=m
 obtain⟨x,y,q⟩:=c
 have hm0:okM 16384 (t,0,0):=⟨hm.1,by simp,by simp,by simp,by simp,by simp⟩
 have hp1:=point_c (hQ hm (by omega)) (x:=2*x+1) (y:=2*y+1) (by simp only at hc;omega)
 have hp2:=point_c (hQ hm0 (by omega)) (x:=sdX q) (y:=sdY q) (by
  have hq:q<4:=hc.2.2.2.2
  obtain rfl|rfl|rfl|rfl:q=0∨q=1∨q=2∨q=3:=by omega
  all_goals simp[sdX,sdY])
 obtain⟨X,hX⟩ : ∃X,(ptM (t,mx,my) (2*x+1) (2*y+1)).1=X:=⟨_,rfl⟩
 obtain⟨Y,hY⟩ : ∃Y,(ptM (t,mx,my) (2*x+1) (2*y+1)).2=Y:=⟨_,rfl⟩
 obtain⟨U,hU⟩ : ∃U,(ptM (t,0,0) (sdX q) (sdY q)).1=U:=⟨_,rfl⟩
 obtain⟨V,hV⟩ : ∃V,(ptM (t,0,0) (sdX q) (sdY q)).2=V:=⟨_,rfl⟩
 rw[hX,hY]at hp1
 rw[hU,hV]at hp2
 have hm':=hm.2
 have ht:t<8:=hm.1
 have hq:q<4:=hc.2.2.2.2
 simp only at hm' hc
 refine q113 rfl ?_;unfold f113;simp only[qxh]
 simp only[mvl,cll,qa2,qaS]
 repeat (first|simp(disch:=omega)only[↓qXX]|refine ae (middle_c (by omega)) ?_|refine af (inB_t hq) ?_|refine af (pick_q hq) ?_|refine ae hp1 ?_|refine ae hp2 ?_)
 rcases t8 ht with rfl|rfl|rfl|rfl|rfl|rfl|rfl|rfl
 all_goals obtain rfl|rfl|rfl|rfl:q=0∨q=1∨q=2∨q=3:=by omega
 all_goals
  simp[ptM,mA,mB,mC,mD,sdX,sdY]at hX hY hU hV
  subst hU hV
  repeat (first|simp(disch:=omega)only[↓qXX]|refine af (by simp only[rj,putL,offX,Int.reduceToNat,Int.reduceAdd,Int.reduceMul,Int.reduceMod,Int.reduceSub,Int.reduceNeg,Int.reduceDiv,Nat.reduceAdd,Nat.reduceMul,Nat.reduceLeDiff,qaG,qbG,↓reduceIte,qbK,qa1,qa7,qbB,qa2,qaS,qaL,Int.toNat_zero,qcw,qcb,qdo];exact rfl) ?_|refine p_loop 6 ?_)
  try simp[iN,mA,mB,mC,mD,qT]
  try omega
end St
end Go.Am
namespace Go.Am
namespace Sx
section
variable [Val] [Kno]
variable {C:Cfg} {Sg:Tc} {T:Tt} {α:Type}
def putE(h:HL)(id e:Nat)(enc:α->Tl)(l:List α):HL:=h.set id (.o (.cells (l.flatMap enc) e true))
def dK{h:HL}{id e:Nat}{enc:α->Tl}{l:List α}(hlt:id<h.length):(putE h id e enc l)[id]?=some (.o (.cells (l.flatMap enc) e true)):=by
 unfold putE
 rw[qaJ hlt]
def wg{h:HL}{id e:Nat}{enc:α->Tl}{l l':List α}:(putE h id e enc l).set id (.o (.cells (l'.flatMap enc) e true))=putE h id e enc l':=by
 unfold putE
 rw[List.set_set]
def putE_ls{h:HL}{id e cx:Nat}{enc:α->Tl}(henc:∀a,(enc a).length=e){l:List α}(hlt:id<h.length):LsH (putE h id e enc l) (.slice (some ⟨id,0,tag e⟩) l.length cx) e enc l:=by
 have hl:=aG (e:=e) (enc:=enc) (l:=l) λa _=>henc a
 exact⟨λa _=>henc a,hl,.inr ⟨id,0,cx,_,true,rfl,dK hlt,cut_all hl⟩⟩
def fK{e:Nat}{enc:α->Tl}(henc:∀a,(enc a).length=e):∀ {l:List α} {i:Nat} (a:α),i<l.length->(l.flatMap enc).take (i*e)++enc a++(l.flatMap enc).drop (i*e+e)=(l.set i a).flatMap enc
 | [],_,_,h=>by simp at h
 |b :: l,0,a,_=>by
  have hb:=henc b
  simp only[qcw,qbB,qaS,qaL,qc9,qbI]
  rw[qcn,qbu (by omega),qaS,show e - (enc b).length=0 by omega,qa1]
 |b :: l,i+1,a,h=>by
  have hb:=henc b
  have ih:=fK henc (l:=l) (i:=i) a (by simpa using h)
  simp only[List.set_cons_succ,qbI]
  rw[←ih,qbF,qb9,qcU,qcn]
  rw[qaQ (by omega),qbu (by omega),qaS]
  rw[show i*e+e - (enc b).length=i*e by omega,show i*e+e+e - (enc b).length=i*e+e by omega]
  simp[qaP]
def r_set{h:HL}{id e cx len:Nat}{enc:α->Tl}(henc:∀a,(enc a).length=e){l:List α}{i:Nat}{a:α}{n:Int}{new:Tl}{K:Ta}(hlt:id<h.length)(hn:n=Int.ofNat i)(hi:i<l.length)(hlen:l.length=len)(hnew:new=enc a)
  (hk:K [] (putE h id e enc (l.set i a))):(PH C Sg T).opt (idS e (.slice (some ⟨id,0,tag e⟩) len cx) n) (@hid _ ⟨λx=>(PH C Sg T).heap (.st x new) (putE h id e enc l) (@hid _ ⟨K⟩)⟩):=by
 subst hn hlen hnew
 have hx:idS e (.slice (some ⟨id,0,tag e⟩) l.length cx) (Int.ofNat i)=some (.pointer (some ⟨id,i*e,none⟩)):=by
  rw[sL]
  have hh:0<=Int.ofNat i/\Int.ofNat i<(l.length:Int):=⟨qav i,by show(i:Int)<l.length;omega⟩
  simp only[qdy hh]
  have:¬(tag e=some 1):=by simp[tag]
  simp only[qdz this,qaL]
  rfl
 refine af hx ?_
 have hl:=aG (e:=e) (enc:=enc) (l:=l) λa _=>henc a
 have hle:i*e+e<=l.length*e:=by
  have:=qbl e (show i+1<=l.length by omega)
  rw[qbF,qb9]at this;exact this
 have hrun:(Hp.st (.pointer (some ⟨id,i*e,none⟩)) (enc a)).run (getH T (putE h id e enc l)) (putE h id e enc l).length=some ([.set id (.cells ((l.set i a).flatMap enc) e true)],[]):=by
  show stP (.pointer (some ⟨id,i*e,none⟩)) (enc a) (getH T (putE h id e enc l)) (putE h id e enc l).length=_
  unfold stP
  simp only
  rw[bR (dK hlt)]
  simp only
  unfold splice
  rw[henc a,hl,qdy hle,fK henc a hi]
  rfl
 refine bS hrun ?_
 show K [] (cB _ _)
 have:cB (putE h id e enc l) [.set id (.cells ((l.set i a).flatMap enc) e true)]=putE h id e enc (l.set i a):=wg
 rw[this]
 exact hk
end
end Sx
namespace Sx
section
variable [Val] [Kno]
variable {C:Cfg} {Sg:Tc} {T:Tt} {α:Type}
def ik{enc:α->Tl}{z:α}{n:Nat}:bm (enc z) n=(List.replicate n z).flatMap enc:=by
 unfold bm
 rw[List.flatMap_def,List.map_replicate]
def newE(h:HL)(e:Nat)(enc:α->Tl)(l:List α):HL:=h++[.o (.cells (l.flatMap enc) e true)]
def newE_put{h:HL}{e:Nat}{enc:α->Tl}{l:List α}:putE (h++[.o .dead]) h.length e enc l=newE h e enc l:=by
 unfold putE newE
 rw[qb1 _ _ (qaf _),qbC];rfl
def newE_ls{h:HL}{e cx:Nat}{enc:α->Tl}(henc:∀a,(enc a).length=e){l:List α}{n:Nat}(hn:n=l.length):LsH (newE h e enc l) (.slice (some ⟨h.length,0,tag e⟩) n cx) e enc l:=by
 subst hn
 rw[←newE_put]
 exact putE_ls henc (by simp)
def qV{n:Nat}(h:n<=1048576):mkOk (Int.ofNat n) (Int.ofNat n)=some ():=by
 unfold mkOk
 rw[qdy]
 exact⟨qav n,Int.le_refl _,by show(n:Int)<=1048576;omega⟩
def cap_full{id n:Nat}{o:Nat}{sp:Tp}:capS (.slice (some ⟨id,o,sp⟩) n (n+1))=some (Int.ofNat n):=rfl
end
end Sx
namespace Sx
section
variable [Val] [Kno]
variable {C:Cfg} {Sg:Tc} {T:Tt} {α:Type}
def fw{l:List α}{i:Nat}{a:α}(h:l[i]?=some a):l.set i a=l:=by
 apply qaZ
 intro k
 by_cases hk:i=k
 ·subst hk
  rw[qaJ (aM h),h]
 ·rw[qaA hk]
end
end Sx
namespace Sx
section
variable [Val] [Kno] {C:Cfg} {T:Tt}
abbrev Ku:=Int×Int
def kvU(k:Ku):Value:=.agg ⟨[.int .i64 k.1,.int .u8 k.2]⟩
def EntS(es:Th)(ks:List Ku):Prop:=es.map (·.key)=ks.map kvU/\∀e∈es,e.val = .bool true
abbrev kkU:TG:=[.i .i64,.i .u8]
def qx(a b:Int):eqZ a b=decide (a=b):=by
 have hb:∀m n:Nat,Nat.beq m n=decide (m=n):=λm n=>by
  by_cases h:m=n
  ·subst h;simp
  ·rw[qdw h]
   cases hq:Nat.beq m n with
   |true=>exact absurd (qad hq) h
   |false=>rfl
 cases a<;>cases b<;>simp[eqZ,hb]
 omega
def difK_kv(a b:Ku):difK kkU [.int .i64 a.1,.int .u8 a.2] [.int .i64 b.1,.int .u8 b.2]=some (decide (a=b)):=by
 have e1:dy .i64 .i64=true:=rfl
 have e2:dy .u8 .u8=true:=rfl
 obtain⟨a1,a2⟩:=a
 obtain⟨b1,b2⟩:=b
 simp only[difK,e1,e2,qx,qb6]
 by_cases h1:a1=b1
 ·by_cases h2:a2=b2
  ·simp[h1,h2]
  ·simp[h1,h2]
 ·simp[h1]
def qE(k:Ku):∀ {es:Th} {ks:List Ku} (i:Nat),EntS es ks->(k∉ks->il kkU [.int .i64 k.1,.int .u8 k.2] es i=some none)/\(k∈ks->∃j e,il kkU [.int .i64 k.1,.int .u8 k.2] es i=some (some (i+j))/\es[j]?=some e/\e.val = .bool true)
 | [],[],i,_=>⟨λ_=>rfl,λh=>by cases h⟩
 | [],_ :: _,i,h=>by have:=h.1;simp at this
 |_ :: _,[],i,h=>by have:=h.1;simp at this
 |e :: es,q :: ks,i,h=>by
  obtain⟨h1,h2⟩:=h
  simp only[qau,qay]at h1
  obtain⟨ih1,ih2⟩:=qE k (i+1) (⟨h1.2,λx hx=>h2 x (qan _ hx)⟩ : EntS es ks)
  have hq:il kkU [.int .i64 k.1,.int .u8 k.2] (e :: es) i=if k=q then some (some i)else il kkU [.int .i64 k.1,.int .u8 k.2] es (i+1):=by
   simp only[il,h1.1,kvU]
   rw[difK_kv]
   by_cases hk:k=q<;>simp[hk]
  rw[hq]
  by_cases hk:k=q
  ·subst hk
   refine⟨λhn=>absurd qaB hn,λ_=>⟨0,e,by rw[qdy rfl];rfl,rfl,h2 e qaB⟩⟩
  ·rw[qdz hk]
   refine⟨λhn=>ih1 λhm=>hn (qan _ hm),λhm=>?_⟩
   rcases qal.1 hm with hm|hm
   ·exact absurd hm hk
   ·obtain⟨j,e',g1,g2,g3⟩:=ih2 hm
    exact⟨j+1,e',by rw[g1];congr 2;omega,by simpa using g2,g3⟩
variable {kt:TK}
def keyF_u(h1:aggT C.P kt=some true)(h2:flatK C.P 10000 kt=some kkU)(k:Ku):keyF C.P kt (kvU k)=true:=by
 have e1:dy .i64 .i64=true:=rfl
 have e2:dy .u8 .u8=true:=rfl
 unfold keyF kvU
 simp only[h1,h2,iJ,e1,e2,qx]
 simp
def uj(h1:aggT C.P kt=some true)(h2:flatK C.P 10000 kt=some kkU)(k:Ku){es:Th}{r:Tp}(hr:il kkU [.int .i64 k.1,.int .u8 k.2] es 0=some r):ob C.P kt (kvU k) es=some r:=by
 unfold ob kvU
 simp only[h1,h2,lQ,hr]
def lu_set(h1:aggT C.P kt=some true)(h2:flatK C.P 10000 kt=some kkU){h:HL}{id c:Nat}{es:Th}{ks:List Ku}(hm:h[id]?=some (.o (.map es c)))(he:EntS es ks)(k:Ku) :
  luG C kt false (.bool false) (.map (some id)) (kvU k) false (getH T h)=some [.bool (decide (k∈ks))]:=by
 unfold luG
 rw[keyF_u h1 h2]
 simp only[qaE,qam,if_false]
 have hg:mapG (getH T h) id=some (es,c):=by
  unfold mapG
  rw[bR hm]
 rw[hg]
 simp only
 obtain⟨f1,f2⟩:=qE k 0 he
 by_cases hk:k∈ks
 ·obtain⟨j,e,g1,g2,g3⟩:=f2 hk
  rw[uj h1 h2 k g1]
  have hv:dW es (0+j)=some (.bool true):=by
   rw[qaL]
   unfold dW
   rw[g2]
   simp[g3]
  simp only[hv,qak]
  simp[fj,hk]
 ·rw[uj h1 h2 k (f1 hk)]
  simp[fj,hk]
def mu_set(h1:aggT C.P kt=some true)(h2:flatK C.P 10000 kt=some kkU){h:HL}{id c n:Nat}{es:Th}{ks:List Ku}(hm:h[id]?=some (.o (.map es c)))(he:EntS es ks){k:Ku}(hk:k∉ks) :
  muG C kt (.map (some id)) (kvU k) (.bool true) (getH T h) n=some ([.set id (.map (es++[{ key:=kvU k,val:=.bool true,born:=c }]) (c+1))],[]):=by
 unfold muG
 simp only
 rw[keyF_u h1 h2]
 simp only[qaE,qam,if_false]
 have hg:mapG (getH T h) id=some (es,c):=by
  unfold mapG
  rw[bR hm]
 rw[hg]
 simp only
 rw[uj h1 h2 k ((qE k 0 he).1 hk)]
def EntS.push{es:Th}{ks:List Ku}(he:EntS es ks)(k:Ku)(c:Nat):EntS (es++[{ key:=kvU k,val:=.bool true,born:=c }]) (ks++[k]):=by
 refine⟨by simp[he.1],λe hm=>?_⟩
 rcases qao.1 hm with hm|hm
 ·exact he.2 e hm
 ·simp only[qap]at hm
  subst hm;rfl
end
end Sx
namespace Sx
section
variable [Val] [Kno] {C:Cfg} {T:Tt}
abbrev K3:=Int×Int×Nat
def cc3(k:K3):Tl:=[.int .i64 k.1,.int .i64 k.2.1,.int .u8 (Int.ofNat k.2.2)]
def kv3(k:K3):Value:=.agg ⟨cc3 k⟩
abbrev kk3:TG:=[.i .i64,.i .i64,.i .u8]
def difK_3(a b:K3):difK kk3 (cc3 a) (cc3 b)=some (decide (a=b)):=by
 have e1:dy .i64 .i64=true:=rfl
 have e2:dy .u8 .u8=true:=rfl
 obtain⟨a1,a2,a3⟩:=a
 obtain⟨b1,b2,b3⟩:=b
 simp only[cc3,difK,e1,e2,qx,qb6]
 have e3:decide (Int.ofNat a3=Int.ofNat b3)=decide (a3=b3):=decide_eq_decide.2 ⟨λh=>qca h,λh=>by rw[h]⟩
 rw[e3]
 by_cases h1:a1=b1<;>by_cases h2:a2=b2<;>by_cases h3:a3=b3<;>simp[h1,h2,h3]
def xd(k:K3):∀ {es:Th} {ks:List K3} (i:Nat),es.map (·.key)=ks.map kv3->il kk3 (cc3 k) es i=some ((ks.idxOf? k).map (i + ·))
 | [],[],i,_=>rfl
 | [],_ :: _,i,h=>by simp at h
 |_ :: _,[],i,h=>by simp at h
 |e :: es,q :: ks,i,h=>by
  simp only[qau,qay]at h
  have ih:=xd k (i+1) h.2
  have hq:il kk3 (cc3 k) (e :: es) i=if k=q then some (some i)else il kk3 (cc3 k) es (i+1):=by
   simp only[il,h.1,kv3]
   rw[difK_3]
   by_cases hk:k=q<;>simp[hk]
  rw[hq,List.idxOf?_cons]
  by_cases hk:k=q
  ·subst hk
   simp
  ·rw[qdz hk,ih,qdz (by simp;exact λe=>hk e.symm),Option.map_map]
   congr 2
   funext j
   simp only[Function.comp];omega
variable {kt:TK} (h1:aggT C.P kt=some true) (h2:flatK C.P 10000 kt=some kk3)
include h1 h2
theorem sQ(k:K3):keyF C.P kt (kv3 k)=true:=by
 have e1:dy .i64 .i64=true:=rfl
 have e2:dy .u8 .u8=true:=rfl
 unfold keyF kv3 cc3
 simp only[h1,h2,iJ,e1,e2,qx]
 simp
theorem mM(k:K3){es:Th}{r:Tp}(hr:il kk3 (cc3 k) es 0=some r):ob C.P kt (kv3 k) es=some r:=by
 unfold ob kv3
 simp only[h1,h2,lQ,hr]
omit h1 h2 in
omit h1 h2 in
omit h1 h2 in
omit h1 h2 in
theorem jm{h:HL}{id c:Nat}{es:Th}(hm:h[id]?=some (.o (.map es c))):mapG (getH T h) id=some (es,c):=by
 unfold mapG
 rw[bR hm]
end
section
variable [Val] [Kno] {T:Tt}
end
end Sx
namespace Sx
section
variable [Val] [Kno] {C:Cfg} {Sg:Tc} {T:Tt}
def nb{α β:Type}(f:α->β):∀(l:List α) (j:Nat),(l.eraseIdx j).map f=(l.map f).eraseIdx j
 | [],_=>rfl
 |_ :: _,0=>rfl
 |a :: l,j+1=>by simp only[List.eraseIdx_cons_succ,qau,nb f l j]
def Set3(h:HL)(id:Nat)(ks:List K3):Prop:=∃es c,h[id]?=some (.o (.map es c))/\es.map (·.key)=ks.map kv3/\∀e∈es,e.val = .bool true
def Set3.keep{h h':HL}{id:Nat}{ks:List K3}(hs:Set3 h id ks)(hk:∀o,h[id]?=some o->h'[id]?=some o):Set3 h' id ks:=by
 obtain⟨es,c,h1,h2⟩:=hs
 exact⟨es,c,hk _ h1,h2⟩
def Set3.lt{h:HL}{id:Nat}{ks:List K3}(hs:Set3 h id ks):id<h.length:=by
 obtain⟨es,c,h1,_⟩:=hs
 exact aM h1
variable {kt:TK} (h1:aggT C.P kt=some true) (h2:flatK C.P 10000 kt=some kk3)
include h1 h2
theorem r_lu3{h:HL}{id:Nat}{ks:List K3}{K:Te}(hs:Set3 h id ks)(k:K3)(hk:K [.bool (decide (k∈ks))]) :
  (PH C Sg T).peek (.fn (luG C kt false (.bool false) (.map (some id)) (kv3 k) false)) h (@hid _ ⟨K⟩):=by
 obtain⟨es,c,a1,a2,a3⟩:=hs
 refine ee (cs:=[.bool (decide (k∈ks))]) ?_ hk
 show luG C kt false (.bool false) (.map (some id)) (kv3 k) false (getH T h)=_
 unfold luG
 rw[sQ h1 h2]
 simp only[qaE,qam,if_false]
 rw[jm a1]
 simp only
 rw[mM h1 h2 k (xd k 0 a2)]
 cases hi:ks.idxOf? k with
 |none=>
  rw[qdw (qcF.1 hi)]
  simp[fj]
 |some j=>
  obtain⟨hj,hjk,_⟩:=qdg.1 hi
  have hlen:es.length=ks.length:=by
   have:=congrArg List.length a2
   simpa using this
  have he:es[j]?=some (es[j]'(by omega)):=qai _
  have hv:=a3 _ (qco (show j<es.length by omega))
  rw[qdx (hjk▸qco hj)]
  simp only[qaz,qaL]
  have hv2:dW es j=some (.bool true):=by
   unfold dW
   rw[he]
   simp[hv]
  rw[hv2]
  simp[fj]
theorem r_mu3{h:HL}{id:Nat}{ks:List K3}{K:Ta}(hs:Set3 h id ks)(k:K3)(hk:∀o,Set3 (h.set id o) id (if k∈ks then ks else ks++[k])->K [] (h.set id o)) :
  (PH C Sg T).heap (.fn (muG C kt (.map (some id)) (kv3 k) (.bool true))) h (@hid _ ⟨K⟩):=by
 have hlt:=hs.lt
 obtain⟨es,c,a1,a2,a3⟩:=hs
 cases hi:ks.idxOf? k with
 |none=>
  have hn:k∉ks:=qcF.1 hi
  have hrun:(Hp.fn (muG C kt (.map (some id)) (kv3 k) (.bool true))).run (getH T h) h.length=some ([.set id (.map (es++[{ key:=kv3 k,val:=.bool true,born:=c }]) (c+1))],[]):=by
   show muG C kt (.map (some id)) (kv3 k) (.bool true) (getH T h) h.length=_
   unfold muG
   simp only
   rw[sQ h1 h2]
   simp only[qaE,qam,if_false]
   rw[jm a1]
   simp only
   rw[mM h1 h2 k (xd k 0 a2),hi]
   rfl
  refine bS hrun (hk _ ?_)
  rw[qdz hn]
  refine⟨_,_,qaJ hlt,by simp[a2],λe hm=>?_⟩
  rcases qao.1 hm with hm|hm
  ·exact a3 e hm
  ·simp only[qap]at hm
   subst hm;rfl
 |some j=>
  obtain⟨hj,hjk,_⟩:=qdg.1 hi
  have hm:k∈ks:=hjk▸qco hj
  have hlen:es.length=ks.length:=by
   have:=congrArg List.length a2
   simpa using this
  have he:es[j]?=some (es[j]'(by omega)):=qai _
  have hkey:(es[j]'(by omega)).key=kv3 k:=by
   have e1:(es.map (·.key))[j]?=(ks.map kv3)[j]?:=by rw[a2]
   rw[qax,qax,he,qai hj,hjk]at e1
   simpa using e1
  have hsb:Instr.sameBits 10000 (kv3 k) (kv3 k)=true:=by simp[kv3,cc3,Instr.sameBits]
  have hrun:(Hp.fn (muG C kt (.map (some id)) (kv3 k) (.bool true))).run (getH T h) h.length=some ([.set id (.map (es.modify j λe=>{ e with key:=kv3 k,val:=.bool true }) c)],[]):=by
   show muG C kt (.map (some id)) (kv3 k) (.bool true) (getH T h) h.length=_
   unfold muG
   simp only
   rw[sQ h1 h2]
   simp only[qaE,qam,if_false]
   rw[jm a1]
   simp only
   rw[mM h1 h2 k (xd k 0 a2),hi]
   simp only[qaz,qaL]
   rw[he]
   simp only[Option.all_some,hkey,hsb,if_true]
  refine bS hrun (hk _ ?_)
  rw[qdy hm]
  refine⟨_,_,qaJ hlt,?_,λe hme=>?_⟩
  ·rw[←a2]
   apply qaZ
   intro i
   rw[qax,qax,qcY]
   by_cases hij:j=i
   ·subst hij
    rw[he]
    simp[hkey]
   ·simp[hij]
  ·obtain⟨i,hi'⟩:=qaW hme
   rw[qcY]at hi'
   by_cases hij:j=i
   ·subst hij
    rw[he]at hi'
    simp at hi'
    rw[←hi']
   ·simp[hij]at hi'
    exact a3 e (qab hi')
theorem r_de3{h:HL}{id:Nat}{ks:List K3}{K:Ta}(hs:Set3 h id ks)(k:K3)(hk:∀h',(h'=h∨∃o,h'=h.set id o)->Set3 h' id (ks.erase k)->K [] h') :
  (PH C Sg T).heap (.fn (deG C kt (.map (some id)) (kv3 k))) h (@hid _ ⟨K⟩):=by
 have hlt:=hs.lt
 have hs':=hs
 obtain⟨es,c,a1,a2,a3⟩:=hs
 cases hi:ks.idxOf? k with
 |none=>
  have hn:k∉ks:=qcF.1 hi
  have hrun:(Hp.fn (deG C kt (.map (some id)) (kv3 k))).run (getH T h) h.length=some ([],[]):=by
   show deG C kt (.map (some id)) (kv3 k) (getH T h) h.length=_
   unfold deG
   rw[sQ h1 h2]
   simp only[qaE,qam,if_false]
   rw[jm a1]
   simp only
   rw[mM h1 h2 k (xd k 0 a2),hi]
   rfl
  refine bS hrun (hk _ (.inl rfl) ?_)
  rw[List.erase_of_not_mem hn]
  exact hs'
 |some j=>
  have hrun:(Hp.fn (deG C kt (.map (some id)) (kv3 k))).run (getH T h) h.length=some ([.set id (.map (es.eraseIdx j) c)],[]):=by
   show deG C kt (.map (some id)) (kv3 k) (getH T h) h.length=_
   unfold deG
   rw[sQ h1 h2]
   simp only[qaE,qam,if_false]
   rw[jm a1]
   simp only
   rw[mM h1 h2 k (xd k 0 a2),hi]
   simp only[qaz,qaL]
  refine bS hrun (hk _ (.inr ⟨_,rfl⟩) ⟨_,_,qaJ hlt,?_,λe he=>a3 e (List.mem_of_mem_eraseIdx he)⟩)
  have e1:ks.erase k=ks.eraseIdx j:=by
   rw[List.erase_eq_eraseIdx,hi]
  rw[e1,nb,a2,nb]
omit h1 h2 in
theorem r_len3{h:HL}{id:Nat}{ks:List K3}{K:Te}(hs:Set3 h id ks)(hk:K [.int .i64 (Int.ofNat ks.length)]):(PH C Sg T).peek (.fn (lenM (.map (some id)))) h (@hid _ ⟨K⟩):=by
 obtain⟨es,c,a1,a2,a3⟩:=hs
 have hlen:es.length=ks.length:=by
  have:=congrArg List.length a2
  simpa using this
 refine ee (cs:=[.int .i64 (Int.ofNat ks.length)]) ?_ hk
 show lenM (.map (some id)) (getH T h)=_
 unfold lenM
 simp only
 rw[bR a1]
 simp only
 rw[hlen]
 rfl
end
end Sx
end Go.Am
namespace Go.Am
open Sx Go.Proofs
def gk{g:TM}{sg:Sig}{cap:Tl}{ls rs:TD}{H H':Ts}{args:Tl}(hc:aK cc ab g ls H rs H')(hs:ab g=some sg)(xs:List S0)(h1:ca xs sg.ps=true)(h2:cg xs=ls)(h3:ah xs=args++cap) :
  tR cc (.func (.func g) ⟨[]⟩ ⟨cap⟩) args sg.rs H rs H':=by
 obtain⟨sg',xs',ys,c1,c2,c3,c4⟩:=hc
 rw[hs]at c1
 cases c1
 obtain⟨w1,_⟩:=cH c2.1 h1 (c2.2.1.trans h2.symm)
 rw[w1,h3]at c4
 exact⟨ys,c3,.inl ⟨g,⟨[]⟩,⟨cap⟩,rfl,by simpa using c4⟩⟩
abbrev ptrB(b:Nat):Value:=.pointer (some ⟨b,0,none⟩)
def bG{h:HL}{b e:Nat}{cs:Tl}(hb:h[b]?=some (.o (.cells cs e true))):Ptr h (ptrB b) cs:=⟨b,0,cs,e,true,rfl,hb,Sx.cut_all rfl⟩
def eW(b:Nat):aW (ptrB b)=true:=by simp[aW,noLoc,bj,bB,bu,aS,aJ]
def cP{h:HL}{p:Value}{cs:Tl}{K:Te}{n:Nat}(hp:Ptr h p cs)(hn:cs.length=n)(hk:K cs):P1.peek (.lg cc n p) h (@hid _ ⟨K⟩):=ee (hp.lg hn) hk
def vR{h:HL}{p:Value}{cs ds:Tl}{K:Te}{o n:Nat}(hp:Ptr h p cs)(hn:o+n<=cs.length)(hd:ds=(cs.drop o).take n)(hk:K ds) :
  P1.opt (fdP o p) (@hid _ ⟨λy=>P1.chk y (@hid _ ⟨P1.peek (.lg cc n y) h (@hid _ ⟨K⟩)⟩)⟩):=by
 subst hd
 obtain⟨q,h3,h4⟩:=hp.fd o n hn
 refine af h3 (aq h4.good (ee (h4.lg ?_) hk))
 rw[qaI,qbN];omega
def io{h:HL}{b e:Nat}{vs new:Tl}{K:Ta}(hb:h[b]?=some (.o (.cells vs e true)))(hl:new.length=vs.length)(hk:K [] (h.set b (.o (.cells new e true)))):P1.heap (.st (ptrB b) new) h (@hid _ ⟨K⟩):=by
 have hrun:(Hp.st (ptrB b) new).run (getH aa h) h.length=some ([.set b (.cells new e true)],[]):=by
  show stP (ptrB b) new (getH aa h) h.length=_
  unfold stP
  simp only
  rw[bR hb]
  simp only
  unfold splice
  rw[qdy (by omega)]
  simp[hl]
 exact bS hrun hk
def rg{b:Td}{m:(TD->HL->Prop)->Prop}(P:Td)(h1:∀l h,P l h->b l h)(h2:∀j:TD->HL->Prop,(∀l h,P l h->j l h)->m j):P1.join (@hid _ ⟨b⟩) (@hid _ ⟨m⟩):=h2 _ h1
def p_eqlT{a b:Int}{K:To}(h:∀t,t=decide (a=b)->K t):P1.cmp .eql a b (@hid _ ⟨K⟩):=by
 show K (a==b)
 exact h _ (by rw[qbJ];simp)
def dL{h:HL}{a b:HO}:(h++[a]).set h.length b=h++[b]:=by simp
def aH{h:HL}{a:HO}:(h++[a])[h.length]?=some a:=by simp
def bv{h:HL}{a:HO}{i:Nat}{o:HO}(hi:h[i]?=some o):(h++[a])[i]?=some o:=Pre.get ⟨_,rfl⟩ hi
def bA{h:HL}{a:HO}{i j:Nat}{o:HO}(hi:h[i]?=some o)(hne:j≠i):(h.set j a)[i]?=some o:=by
 rw[qaA hne];exact hi
def qG{h:HL}{a b:HO}{i:Nat}(hi:h[i]?=some a):(h.set i b)[i]?=some b:=qaJ (aM hi)
def Low(n0:Nat)(h h':HL):Prop:=∀(j:Nat) o,j<n0->h[j]?=some o->h'[j]?=some o
def Low.refl{n0:Nat}(h:HL):Low n0 h h:=λ_ _ _ h=>h
def Low.trans{n0:Nat}{a b c:HL}(h:Low n0 a b)(k:Low n0 b c):Low n0 a c:=λj o hj ho=>k j o hj (h j o hj ho)
def Low.app{n0:Nat}{a b:HL}(h:Low n0 a b)(G:HL):Low n0 a (b++G):=λj o hj ho=>Pre.get ⟨_,rfl⟩ (h j o hj ho)
def Low.set{n0:Nat}{a b:HL}(h:Low n0 a b){i:Nat}(hi:n0<=i)(o:HO):Low n0 a (b.set i o):=λj o' hj ho=>bA (h j o' hj ho) (by omega)
def Low.le{n0 n1:Nat}{a b:HL}(h:Low n0 a b)(hn:n1<=n0):Low n1 a b:=λj o hj ho=>h j o (by omega) ho
def Low.ls{α:Type}{n0:Nat}{h h':HL}(hl:Low n0 h h'){v:Value}{e:Nat}{enc:α->Tl}{l:List α}(hs:LsH h v e enc l)(hb:∀i,blk v=some i->i<n0):LsH h' v e enc l:=hs.keep λj o ho hj=>hl j o (hb j hj) ho
def Sx.LsH.blkLt{α:Type}{h:HL}{v:Value}{e:Nat}{enc:α->Tl}{l:List α}(hs:LsH h v e enc l){i:Nat}(hb:blk v=some i):i<h.length:=by
 obtain⟨_,_,⟨rfl,_⟩|⟨id,off,cx,vs,rw',rfl,h2,_⟩⟩:=hs
 ·cases hb
 ·cases hb
  exact aM h2
def Sx.LsH.low{α:Type}{h h':HL}{v:Value}{e:Nat}{enc:α->Tl}{l:List α}(hs:LsH h v e enc l)(hl:Low h.length h h'):LsH h' v e enc l:=hl.ls hs λ_ hb=>hs.blkLt hb
def bM(a:K3):(cc3 a).length=3:=rfl
def eqs3{a b:K3}{K:To}:P1.eqs [(.i a.1,.i b.1),(.i a.2.1,.i b.2.1),(.i (Int.ofNat a.2.2),.i (Int.ofNat b.2.2))] (@hid _ ⟨K⟩)=K (decide (a=b)):=by
 show K (cp _)=_
 have e:cp [(.i a.1,.i b.1),(.i a.2.1,.i b.2.1),(.i (Int.ofNat a.2.2),.i (Int.ofNat b.2.2))]=decide (a=b):=by
  rw[qbJ]
  simp[cp,gA,Prod.ext_iff]
  intro _ _
  omega
 rw[e]
def OwnL{α:Type}(n0:Nat)(h:HL)(v:Value)(e:Nat)(enc:α->Tl)(l:List α):Prop:=
 (v = .slice none 0 0/\l=[])∨∃id cx,v = .slice (some ⟨id,0,tag e⟩) l.length cx/\n0<=id/\h[id]?=some (.o (.cells (l.flatMap enc) e true))/\(cx=0∨cx=l.length+1)
section
variable {α:Type} {n0 e:Nat} {enc:α->Tl} {l:List α} {h:HL} {v:Value}
def OwnL.nil(n0:Nat)(h:HL)(e:Nat)(enc:α->Tl):OwnL n0 h (.slice none 0 0) e enc []:=.inl ⟨rfl,rfl⟩
def OwnL.ls(henc:∀a,(enc a).length=e)(ho:OwnL n0 h v e enc l):LsH h v e enc l:=by
 have hl:=aG (e:=e) (enc:=enc) (l:=l) λa _=>henc a
 rcases ho with⟨rfl,rfl⟩|⟨id,cx,rfl,_,h2,_⟩
 ·exact LsH.nil h e enc
 ·exact⟨λa _=>henc a,hl,.inr ⟨id,0,cx,_,true,rfl,h2,Sx.cut_all hl⟩⟩
def OwnL.keep{h':HL}(ho:OwnL n0 h v e enc l)(hk:∀(j:Nat) o,h[j]?=some o->blk v=some j->h'[j]?=some o):OwnL n0 h' v e enc l:=by
 rcases ho with h0|⟨id,cx,rfl,h1,h2,h3⟩
 ·exact .inl h0
 ·exact .inr ⟨id,cx,rfl,h1,hk _ _ h2 rfl,h3⟩
def OwnL.app(ho:OwnL n0 h v e enc l)(G:HL):OwnL n0 (h++G) v e enc l:=ho.keep λ_ _ h _=>Pre.get ⟨_,rfl⟩ h
def OwnL.blk(ho:OwnL n0 h v e enc l){j:Nat}(hb:blk v=some j):n0<=j/\j<h.length:=by
 rcases ho with⟨rfl,_⟩|⟨id,cx,rfl,h1,h2,_⟩
 ·cases hb
 ·cases hb
  exact⟨h1,aM h2⟩
def OwnL.good(henc:∀a,(enc a).length=e)(ho:OwnL n0 h v e enc l):aW v=true:=(ho.ls henc).good
def OwnL.ap{bytes k:Nat}{x:Value}{new:List α}{K:Ta}(henc:∀a,(enc a).length=e)(ho:OwnL n0 h v e enc l)(hn0:n0<=h.length)(hx:slG cc e (getH aa h) x=some (new.flatMap enc,k))(hkn:k=new.length)(hs:bO (l.length+k) bytes=true)
  (hk:∀v' h',OwnL n0 h' v' e enc (l++new)->aW v'=true->(∀(j:Nat) o,h[j]?=some o->Sx.blk v≠some j->h'[j]?=some o)->h.length<=h'.length->(Sx.blk v'=Sx.blk v∨∃j,Sx.blk v'=some j/\h.length<=j)->K [v'] h') :
  P1.heap (.ap cc e bytes v x) h (@hid _ ⟨K⟩):=by
 subst hkn
 have hll:(l++new).length=l.length+new.length:=qaC
 have hfm:l.flatMap enc++new.flatMap enc=(l++new).flatMap enc:=by simp
 have gd:∀i n c,aW (.slice (some ⟨i,0,tag e⟩) n c)=true:=λi n c=>by simp[aW,noLoc,bj,bB,bu,aS,aJ,tag]
 rcases ho with⟨rfl,rfl⟩|⟨id,cx,rfl,h1,h2,h3⟩
 ·by_cases hk0:new.length=0
  ·have hnil:new=[]:=qbn.1 hk0
   subst hnil
   have hrun:(Hp.ap cc e bytes (.slice none 0 0) x).run (getH aa h) h.length=some ([],[.slice none 0 0]):=by
    show apG cc e bytes (.slice none 0 0) x (getH aa h) h.length=_
    unfold apG
    rw[hx]
    rfl
   exact bS hrun (hk _ _ (.inl ⟨rfl,rfl⟩) rfl (λj o hj _=>hj) (qaf _) (.inl rfl))
  ·have hrun:(Hp.ap cc e bytes (.slice none 0 0) x).run (getH aa h) h.length=some ([.push (.cells (new.flatMap enc) e true)],[.slice (some ⟨h.length,0,tag e⟩) new.length 0]):=by
    show apG cc e bytes (.slice none 0 0) x (getH aa h) h.length=_
    unfold apG
    rw[hx]
    simp only[qdz hk0]
    rw[qbG,qaL]at hs
    rw[qdy hs]
   refine bS hrun (hk _ _ (.inr ⟨h.length,0,by simp,hn0,by simp[cB,Act1.onH],.inl rfl⟩) (gd _ _ _) (λj o hj _=>Pre.get ⟨_,rfl⟩ hj) (by simp[cB,Act1.onH]) (.inr ⟨h.length,rfl,qaf _⟩))
 ·have hcut:cut (l.flatMap enc) 0 (l.length*e)=some (l.flatMap enc):=Sx.cut_all (aG λa _=>henc a)
  have hlt:=aM h2
  rcases h3 with rfl|rfl
  ·by_cases hk0:new.length=0
   ·have hnil:new=[]:=qbn.1 hk0
    subst hnil
    have hrun:(Hp.ap cc e bytes (.slice (some ⟨id,0,tag e⟩) l.length 0) x).run (getH aa h) h.length=some ([],[.slice (some ⟨id,0,tag e⟩) l.length 0]):=by
     show apG cc e bytes (.slice (some ⟨id,0,tag e⟩) l.length 0) x (getH aa h) h.length=_
     unfold apG
     rw[hx]
     simp only[ne_eq,not_true_eq_false,if_false]
     rw[bR h2]
     simp only[ne_eq,not_true_eq_false,if_false]
     rw[hcut]
     rfl
    exact bS hrun (hk _ _ (.inr ⟨id,0,by simp,h1,by simpa[cB]using h2,.inl rfl⟩) (gd _ _ _) (λj o hj _=>hj) (qaf _) (.inl rfl))
   ·have hrun:(Hp.ap cc e bytes (.slice (some ⟨id,0,tag e⟩) l.length 0) x).run (getH aa h) h.length=some ([.set id .dead,.push (.cells ((l++new).flatMap enc) e true)],[.slice (some ⟨h.length,0,tag e⟩) (l.length+new.length) 0]):=by
     show apG cc e bytes (.slice (some ⟨id,0,tag e⟩) l.length 0) x (getH aa h) h.length=_
     unfold apG
     rw[hx]
     simp only[ne_eq,not_true_eq_false,if_false]
     rw[bR h2]
     simp only[ne_eq,not_true_eq_false,if_false]
     rw[hcut]
     simp only[qdz hk0,qdf]
     rw[qdy hs,hfm]
    have e1:cB h [.set id .dead,.push (.cells ((l++new).flatMap enc) e true)]=h.set id (.o .dead)++[.o (.cells ((l++new).flatMap enc) e true)]:=rfl
    refine bS hrun ?_
    rw[e1]
    refine hk _ _ (.inr ⟨h.length,0,by rw[hll],hn0,?_,.inl rfl⟩) (gd _ _ _) (λj o hj hb=>?_) (by simp) (.inr ⟨h.length,rfl,qaf _⟩)
    ·rw[qaq (by simp)]
     simp
    ·exact bv (bA hj λe=>hb (by subst e;rfl))
  ·by_cases hk0:l.length+new.length<=l.length
   ·have hnil:new=[]:=qbn.1 (by omega)
    subst hnil
    have hrun:(Hp.ap cc e bytes (.slice (some ⟨id,0,tag e⟩) l.length (l.length+1)) x).run (getH aa h) h.length=some ([.set id (.cells (l.flatMap enc) e true)],[.slice (some ⟨id,0,tag e⟩) l.length (l.length+1)]):=by
     show apG cc e bytes (.slice (some ⟨id,0,tag e⟩) l.length (l.length+1)) x (getH aa h) h.length=_
     unfold apG
     rw[hx]
     simp only[ne_eq,not_true_eq_false,if_false]
     rw[bR h2]
     simp only[ne_eq,not_true_eq_false,if_false]
     rw[hcut]
     simp only[qbG,qcb,qaf,if_true]
     unfold splice
     have hl:=aG (e:=e) (enc:=enc) (l:=l) λa _=>henc a
     simp[hl]
    have e1:cB h [.set id (.cells (l.flatMap enc) e true)]=h:=fw h2
    refine bS hrun ?_
    rw[e1]
    exact hk _ _ (.inr ⟨id,l.length+1,by simp,h1,by simpa using h2,.inr (by simp)⟩) (gd _ _ _) (λj o hj _=>hj) (qaf _) (.inl rfl)
   ·have hrun:(Hp.ap cc e bytes (.slice (some ⟨id,0,tag e⟩) l.length (l.length+1)) x).run (getH aa h) h.length=some ([.push (.cells ((l++new).flatMap enc) e true)],[.slice (some ⟨h.length,0,tag e⟩) (l.length+new.length) 0]):=by
     show apG cc e bytes (.slice (some ⟨id,0,tag e⟩) l.length (l.length+1)) x (getH aa h) h.length=_
     unfold apG
     rw[hx]
     simp only[ne_eq,not_true_eq_false,if_false]
     rw[bR h2]
     simp only[ne_eq,not_true_eq_false,if_false]
     rw[hcut]
     simp only[qdz hk0]
     rw[qdy hs,hfm]
    refine bS hrun (hk _ _ (.inr ⟨h.length,0,by rw[hll],hn0,by simp[cB,Act1.onH],.inl rfl⟩) (gd _ _ _) (λj o hj _=>Pre.get ⟨_,rfl⟩ hj) (by simp[cB,Act1.onH]) (.inr ⟨h.length,rfl,qaf _⟩))
def OwnL.ap1{bytes m:Nat}{a:α}{new:Tl}{sp:Tp}{K:Ta}(henc:∀a,(enc a).length=e)(ho:OwnL n0 h v e enc l)(hn0:n0<=h.length)(hm:m=h.length)(hnew:new=enc a)(hsp:sp=some (e+10))(hs:bO (l.length+1) bytes=true)
  (hk:∀v' h',OwnL n0 h' v' e enc (l++[a])->aW v'=true->(∀(j:Nat) o,h[j]?=some o->Sx.blk v≠some j->h'[j]?=some o)->h.length<=h'.length->(Sx.blk v'=Sx.blk v∨∃j,Sx.blk v'=some j/\h.length<=j)->K [v'] h') :
  P1.heap (.ap cc e bytes v (.slice (some ⟨m,0,sp⟩) 1 2)) (h++[.o (.cells new e true)]) (@hid _ ⟨K⟩):=by
 subst hm hnew hsp
 have ho':OwnL n0 (h++[HO.o (.cells (enc a) e true)]) v e enc l:=ho.app _
 refine ho'.ap (new:=[a]) (k:=1) henc (by simp;omega) ?_ rfl hs λv' h' a1 a2 a3 a4 a5=>hk v' h' a1 a2 (λj o hj hb=>a3 j o (bv hj) hb) (by simp at a4;omega) ?_
 ·have hx:SlC (h++[HO.o (.cells (enc a) e true)]) (.slice (some ⟨h.length,0,tag e⟩) 1 2) e 1 (enc a):=⟨by rw[henc,qb9],.inr ⟨h.length,0,2,enc a,true,rfl,aH,Sx.cut_all (by rw[henc,qb9])⟩⟩
  have h1:slG cc e (getH aa (h++[HO.o (.cells (enc a) e true)])) (.slice (some ⟨h.length,0,tag e⟩) 1 2)=some ([a].flatMap enc,1):=by
   rw[tK hx]
   simp
  exact h1
 ·rcases a5 with a5|⟨j,h1,h2⟩
  ·exact .inl a5
  ·exact .inr ⟨j,h1,by simp at h2;omega⟩
end
namespace St
def ltC(a b:Crs):Bool:=decide (a.1<b.1)||(decide (a.1=b.1)&&decide (a.2.1<b.2.1))
def cN(c:Crs):Ku:=(c.1,c.2.1)
def isCr(l:TC)(u e:Nat):Bool:=decide (((Int.ofNat u,Int.ofNat e):Ku)∈l.map cN)
def SetM(H:HL)(id:Nat)(l:TC):Prop:=∃es c,H[id]?=some (.o (.map es c))/\EntS es (l.map cN)
def creased_c{H:HL}{w v:Int}{x:Value}{l:TC}(hl:LsH H x 3 encC l)(hn:(l.map cN).Nodup)(hb:l.length<=1000) :
  ∃G,aK cc ab 102 [.i w,.i v,.v x] (absH aa H) [.v (.map (some H.length))] (absH aa (H++[G]))/\SetM (H++[G]) H.length l:=by
 obtain⟨rs,h',h1,rfl,G,rfl,hS⟩:=x102 (K:=λrs h'=>rs=[.v (.map (some H.length))]/\∃G,h'=H++[G]/\SetM h' H.length l) (H:=H) (glsI (glsI (glsV hl.good gls0))) (by
  unfold f102;simp only[qxh]
  refine p_x ?_
  refine bc hl ?_
  refine p_x ?_
  refine bc hl ?_
  refine cF (σ:=HO) l.length (λj _=>[.i (Int.ofNat j)]) (λ_ G=>H++[G]) (λj G=>SetM (H++[G]) H.length (l.take j)) (j0:=0) (s0:=.o (.map [] 0)) rfl rfl (qaX _) ⟨[],0,by simp,rfl,λe h=>(by cases h)⟩ ?_
  rintro j G hj ⟨es,c,g1,g2⟩ self hself
  refine p_x ?_
  by_cases hlt:j<l.length
  ·rw[aR hlt]
   refine p_x ?_
   obtain⟨a,ha⟩:=aY hlt
   have hl':=hl.pre (h':=H++[G]) ⟨[G],rfl⟩
   refine aV hl' rfl ha ?_
   unfold encC
   refine p_x ?_
   have hk:cN a∉(l.take j).map cN:=by
    intro hm
    rw[qcj]at hm
    have hnd:=hn
    have h3:(l.map cN)[j]?=some (cN a):=by rw[qax,ha];rfl
    have h4:l.map cN=(l.map cN).take j++cN a :: (l.map cN).drop (j+1):=by
     conv=>lhs;rw[←qbt j (l.map cN)]
     rw[qaY (by rw[qaF];exact hlt)]
     congr 2
     rw[qai (by rw[qaF];exact hlt)]at h3
     exact qae h3
    rw[h4,qbZ]at hnd
    exact hnd.2.2 _ hm _ qaB rfl
   refine bS (mu_set (C:=cc) (T:=aa) (n:=(H++[G]).length) (by kernel_rfl) (by kernel_rfl) g1 g2 hk) ?_
   rw[aU (by omega)]
   have e:cB (H++[G]) [.set H.length (.map (es++[{ key:=kvU (cN a),val:=.bool true,born:=c }]) (c+1))]=H++[.o (.map (es++[{ key:=kvU (cN a),val:=.bool true,born:=c }]) (c+1))]:=by
    show(H++[G]).set H.length _=_
    simp
   rw[e]
   refine hself _ hlt ⟨es++[{ key:=kvU (cN a),val:=.bool true,born:=c }],c+1,by simp,?_⟩
   have ht:(l.take (j+1)).map cN=(l.take j).map cN++[cN a]:=by
    rw[qby,ha,qbL];rfl
   rw[ht]
   exact g2.push _ _
  ·obtain rfl:j=l.length:=by omega
   rw[bi (qaf _)]
   refine p_x ?_
   refine⟨by trivial,G,rfl,?_⟩
   rw[qbh]at g2
   exact⟨es,c,g1,g2⟩)
 exact⟨G,h1,hS⟩
def encM(m:Mv):Tl:=[.int .u8 (Int.ofNat m.1),.int .i64 m.2.1,.int .i64 m.2.2]
def fG(m:Mv):(encM m).length=3:=rfl
def acM(w:Nat)(l:TC)(g:Mv)(c n e:Nat):Mv:=if isCr l (min c n) e then cG (ofM (lnC3 (clN w (min c n)) e)) g else g
def across_c{w v:Nat}(hs:Sh w v){l:TC}{h:HL}{x pp pm po sl:Value}{mid:Nat}{G:List Mv}(hP:Ptr h pp [.int .i64 (.ofNat w),.int .i64 (.ofNat v),x])(hM:Ptr h pm [.map (some mid)])(hS:SetM h mid l)(hO:Ptr h po [sl])(hG:LsH h sl 3 encM G)
  {c e n:Nat} (hc:c<4*w*v) (he:e<3) (hn:nbr w v c e=some n) {g:Mv} (hg:G[c]?=some g) {k:Int} (hk:okM k g) (hk0:0<=k/\k<=16000) :
  aK cc ab 104 [.i (.ofNat c),.i (.ofNat e),.v pp,.v pm,.v po] (absH aa h) (mvl (acM w l g c n e)) (absH aa h):=by
 obtain⟨es,c0,m1,m2⟩:=hS
 obtain⟨hu,hln⟩:=name_nb hs hc he hn
 have hlk:=ln_ok hs hc he
 rw[←hln]at hlk
 have hname:=name_c hs hc he hn
 exact xK x104 (glsI (glsI (glsV hP.good (glsV hM.good (glsV hO.good gls0))))) (by
  unfold f104;simp only[qxh]
  repeat (first|simp(disch:=omega)only[↓qXX]|refine vR (ds:=[.int .i64 (.ofNat w),.int .i64 (.ofNat v)]) hP (by simp) rfl ?_|refine ae hname ?_|refine cP hM rfl ?_|refine aq rfl ?_|refine ee (lu_set (C:=cc) (T:=aa) (by kernel_rfl) (by kernel_rfl) m1 m2 (Int.ofNat (min c n),Int.ofNat e)) ?_)
  unfold acM isCr
  by_cases hcr:((Int.ofNat (min c n),Int.ofNat e):Ku)∈l.map cN
  ·rw[qdx hcr]
   repeat (first|simp(disch:=omega)only[↓qXX,qaE,if_true]|refine vR (ds:=[.int .i64 (.ofNat w),.int .i64 (.ofNat v)]) hP (by simp) rfl ?_|refine ae (ln_c hs hu) ?_)
   refine ae (mlof_c ⟨hlk.1,hlk.2.1⟩ ⟨by omega,by omega⟩) ?_
   simp only[mvl,qa2,qaS]
   repeat (first|simp(disch:=omega)only[↓qXX]|refine cP hO rfl ?_|refine aq hG.good ?_)
   refine aV hG rfl hg ?_
   unfold encM
   refine p_x ?_
   refine ae (then_c (ofM_ok (n:=61) ⟨hlk.2.2.1,hlk.2.2.2⟩) hk (by omega)) ?_
   simp only[mvl,qa2,qaS]
   simp(disch:=omega)only[↓qXX]
   trivial
  ·rw[qdw hcr]
   repeat (first|simp(disch:=omega)only[↓qXX,qba,qam,if_false]|refine cP hO rfl ?_|refine aq hG.good ?_)
   refine aV hG rfl hg ?_
   unfold encM
   simp(disch:=omega)only[↓qXX]
   trivial)
end St
namespace St
def tA{α:Type}{e:Nat}{enc:α->Tl}(henc:∀a,(enc a).length=e){h:HL}{id cx len:Nat}{l:List α}{i:Nat}{a:α}{n:Int}{new:Tl}{K:Ta}(hg:h[id]?=some (.o (.cells (l.flatMap enc) e true)))(hn:n=Int.ofNat i)(hi:i<l.length)(hlen:l.length=len)(hnew:new=enc a)(hk:K [] (putE h id e enc (l.set i a))) :
  P1.opt (idS e (.slice (some ⟨id,0,tag e⟩) len cx) n) (@hid _ ⟨λx=>P1.heap (.st x new) h (@hid _ ⟨K⟩)⟩):=by
 have hp:putE h id e enc l=h:=fw hg
 have:=r_set (C:=cc) (Sg:=ab) (T:=aa) (h:=h) (id:=id) (cx:=cx) (len:=len) (l:=l) henc (aM hg) hn hi hlen hnew hk
 rw[hp]at this
 exact this
def dg{α:Type}{h:HL}{id e j:Nat}{enc:α->Tl}{l:List α}(hj:j≠id):(putE h id e enc l)[j]?=h[j]?:=by
 unfold putE
 rw[qaA (qcq hj)]
def encN(n:Nat):Tl:=[.int .i64 (Int.ofNat n)]
def vm(n:Nat):(encN n).length=1:=rfl
def encT(t:Bool):Tl:=[.bool t]
def lN(t:Bool):(encT t).length=1:=rfl
def jh(q:TA):(q.flatMap encN).length=q.length:=by
 rw[aG (e:=1) (enc:=encN) λa _=>vm a,qcm]
def WQ(b:Nat)(h:HL)(v:Value)(q:TA):Prop:=∃id off cx vs,v = .slice (some ⟨id,off,tag 1⟩) q.length cx/\b<=id/\h[id]?=some (.o (.cells vs 1 true))/\cut vs off (q.length*1)=some (q.flatMap encN)/\(cx=0∨cx=q.length+1)
def WQ.ls{b:Nat}{h:HL}{v:Value}{q:TA}(hw:WQ b h v q):LsH h v 1 encN q:=by
 obtain⟨id,off,cx,vs,rfl,h1,h2,h3,_⟩:=hw
 exact⟨λa _=>vm a,by rw[jh,qcm],.inr ⟨id,off,cx,vs,true,rfl,h2,h3⟩⟩
def WQ.good{b:Nat}{h:HL}{v:Value}{q:TA}(hw:WQ b h v q):aW v=true:=hw.ls.good
def WQ.keep{b:Nat}{h h':HL}{v:Value}{q:TA}(hw:WQ b h v q)(hk:∀(j:Nat) o,b<=j->h[j]?=some o->h'[j]?=some o):WQ b h' v q:=by
 obtain⟨id,off,cx,vs,h0,h1,h2,h3⟩:=hw
 exact⟨id,off,cx,vs,h0,h1,hk _ _ h1 h2,h3⟩
def r_tail{b:Nat}{h:HL}{v:Value}{a:Nat}{q:TA}{K:Value->Prop}(hw:WQ b h v (a :: q))(hk:∀v',WQ b h v' q->aW v'=true->K v'):P1.opt (slS 1 v (some 1) none none) (@hid _ ⟨K⟩):=by
 obtain⟨id,off,cx,vs,rfl,h1,h2,h3,h4⟩:=hw
 have hr:slS 1 (.slice (some ⟨id,off,tag 1⟩) (a :: q).length cx) (some 1) none none=some (.slice (some ⟨id,off+1,tag 1⟩) q.length (cx - 1)):=by
  unfold slS
  have e1:¬(tag 1≠some 1/\tag 1≠tag 1):=by simp
  simp only[qdz e1]
  have e2:(0:Int)<=(some (1:Int)).getD 0/\(some (1:Int)).getD 0<=(none:Tq).getD ((a :: q).length:Int)/\bP (a :: q).length cx none none:=by
   refine⟨by simp,?_,?_⟩
   ·simp only[qa9,qdk,qaG];omega
   ·unfold bP
    left;simp
  rw[qdy e2]
  rw[dq,dq,dq]
  simp[bD]
 refine af hr (hk _ ⟨id,off+1,cx - 1,vs,rfl,h1,h2,?_,?_⟩ ?_)
 ·have:=qk (h3:cut vs off ((a :: q).length*1)=some _) (o:=1) (k:=q.length*1) (by simp only[qaG];omega)
  rw[this]
  simp only[qbI,encN,qa2,qaS,qbK,qa1,qcm]
  rw[←jh q]
  congr 1
  exact qbh
 ·rcases h4 with h4|h4
  ·left;omega
  ·right;simp only[qaG]at h4;omega
 ·simp[aW,noLoc,bj,bB,bu,aS,aJ,tag]
def r_apQ{b:Nat}{h:HL}{v:Value}{q:TA}{n m:Nat}{new:Tl}{K:Ta}(hw:WQ b h v q)(hbh:b<=h.length)(hm:m=h.length)(hnew:new=encN n)(hq:q.length<=1000)
  (hk:∀v' h',WQ b h' v' (q++[n])->aW v'=true->(∀(j:Nat) o,j<b->h[j]?=some o->h'[j]?=some o)->h.length<=h'.length->K [v'] h') :
  P1.heap (.ap cc 1 8 v (.slice (some ⟨m,0,some 11⟩) 1 2)) (h++[.o (.cells new 1 true)]) (@hid _ ⟨K⟩):=by
 subst hm hnew
 obtain⟨id,off,cx,vs,rfl,h1,h2,h3,h4⟩:=hw
 have hlt:=aM h2
 have hx:SlC (h++[HO.o (.cells (encN n) 1 true)]) (.slice (some ⟨h.length,0,tag 1⟩) 1 2) 1 1 (encN n):=⟨rfl,.inr ⟨h.length,0,2,encN n,true,rfl,by simp,Sx.cut_all rfl⟩⟩
 have hg:(h++[HO.o (.cells (encN n) 1 true)])[id]?=some (.o (.cells vs 1 true)):=by rw[qah hlt];exact h2
 have hsz:bO (q.length+1) 8=true:=by
  unfold bO
  rw[qa5 (by omega),qa5 (by omega)];rfl
 have gd:∀i,aW (.slice (some ⟨i,0,tag 1⟩) (q.length+1) 0)=true:=λi=>by simp[aW,noLoc,bj,bB,bu,aS,aJ,tag]
 have hcl:(q.flatMap encN++encN n)=(q++[n]).flatMap encN:=by simp
 have hlen:(q++[n]).length=q.length+1:=by simp
 rcases h4 with rfl|rfl
 ·have hrun:apG cc 1 8 (.slice (some ⟨id,off,tag 1⟩) q.length 0) (.slice (some ⟨h.length,0,tag 1⟩) 1 2) (getH aa (h++[HO.o (.cells (encN n) 1 true)])) (h++[HO.o (.cells (encN n) 1 true)]).length=some ([.set id .dead,.push (.cells (q.flatMap encN++encN n) 1 true)],[.slice (some ⟨(h++[HO.o (.cells (encN n) 1 true)]).length,0,tag 1⟩) (q.length+1) 0]):=by
   unfold apG
   rw[tK hx]
   simp only[ne_eq,not_true_eq_false,if_false]
   rw[bR hg]
   simp only[ne_eq,not_true_eq_false,if_false]
   rw[h3]
   simp only[qdf]
   rw[qdz (by omega),qdy hsz]
  refine bS (show(Hp.ap cc 1 8 (.slice (some ⟨id,off,tag 1⟩) q.length 0) (.slice (some ⟨h.length,0,tag 1⟩) 1 2)).run _ _=_ from hrun) ?_
  refine hk _ _ ⟨(h++[HO.o (.cells (encN n) 1 true)]).length,0,0,q.flatMap encN++encN n,by rw[hlen],by simp;omega,?_,?_,.inl rfl⟩ (gd _) (λj o hj ho=>?_) ?_
  ·show(((h++[HO.o (.cells (encN n) 1 true)]).set id (.o .dead))++[HO.o (.cells (q.flatMap encN++encN n) 1 true)])[_]?=_
   rw[qaq (by simp)]
   simp
  ·rw[hcl,hlen]
   exact Sx.cut_all (by rw[jh,hlen,qcm])
  ·show(((h++[HO.o (.cells (encN n) 1 true)]).set id (.o .dead))++[HO.o (.cells (q.flatMap encN++encN n) 1 true)])[j]?=_
   have:=aM ho
   rw[qah (by simp;omega),qaA (by omega),qah this]
   exact ho
  ·show h.length<=(((h++[HO.o (.cells (encN n) 1 true)]).set id (.o .dead))++[HO.o (.cells (q.flatMap encN++encN n) 1 true)]).length
   simp;omega
 ·have hrun:apG cc 1 8 (.slice (some ⟨id,off,tag 1⟩) q.length (q.length+1)) (.slice (some ⟨h.length,0,tag 1⟩) 1 2) (getH aa (h++[HO.o (.cells (encN n) 1 true)])) (h++[HO.o (.cells (encN n) 1 true)]).length=some ([.push (.cells (q.flatMap encN++encN n) 1 true)],[.slice (some ⟨(h++[HO.o (.cells (encN n) 1 true)]).length,0,tag 1⟩) (q.length+1) 0]):=by
   unfold apG
   rw[tK hx]
   simp only[ne_eq,not_true_eq_false,if_false]
   rw[bR hg]
   simp only[ne_eq,not_true_eq_false,if_false]
   rw[h3]
   simp only
   rw[qdz (by omega),qdy hsz]
  refine bS (show(Hp.ap cc 1 8 (.slice (some ⟨id,off,tag 1⟩) q.length (q.length+1)) (.slice (some ⟨h.length,0,tag 1⟩) 1 2)).run _ _=_ from hrun) ?_
  refine hk _ _ ⟨(h++[HO.o (.cells (encN n) 1 true)]).length,0,0,q.flatMap encN++encN n,by rw[hlen],by simp;omega,?_,?_,.inl rfl⟩ (gd _) (λj o hj ho=>?_) ?_
  ·show((h++[HO.o (.cells (encN n) 1 true)])++[HO.o (.cells (q.flatMap encN++encN n) 1 true)])[_]?=_
   rw[qaq (by simp)]
   simp
  ·rw[hcl,hlen]
   exact Sx.cut_all (by rw[jh,hlen,qcm])
  ·show((h++[HO.o (.cells (encN n) 1 true)])++[HO.o (.cells (q.flatMap encN++encN n) 1 true)])[j]?=_
   have:=aM ho
   rw[qah (by simp;omega),qah this]
   exact ho
  ·show h.length<=((h++[HO.o (.cells (encN n) 1 true)])++[HO.o (.cells (q.flatMap encN++encN n) 1 true)]).length
   simp
structure RS(H h:HL)(w v:Nat)(x:Value)(l:TC)(A:List Mv)(B:List Bool):Prop where
 pre:Pre H h
 len:H.length+6<=h.length
 p:h[H.length]?=some (.o (.cells [.int .i64 (.ofNat w),.int .i64 (.ofNat v),x] 3 true))
 mp:SetM h (H.length+1) l
 mv:h[H.length+2]?=some (.o (.cells [.map (some (H.length+1))] 1 true))
 ol:h[H.length+3]?=some (.o (.cells (A.flatMap encM) 3 true))
 ov:h[H.length+4]?=some (.o (.cells [.slice (some ⟨H.length+3,0,tag 3⟩) (4*w*v) (4*w*v+1)] 1 true))
 kn:h[H.length+5]?=some (.o (.cells (B.flatMap encT) 1 true))
 la:A.length=4*w*v
 lb:B.length=4*w*v
section
variable {H h:HL} {w v:Nat} {x:Value} {l:TC} {A:List Mv} {B:List Bool}
abbrev ptrB(b:Nat):Value:=.pointer (some ⟨b,0,none⟩)
def RS.lsA(hr:RS H h w v x l A B):LsH h (.slice (some ⟨H.length+3,0,tag 3⟩) (4*w*v) (4*w*v+1)) 3 encM A:=by
 have hl:=aG (e:=3) (enc:=encM) (l:=A) λa _=>fG a
 rw[←hr.la]
 exact⟨λa _=>fG a,hl,.inr ⟨_,0,_,_,true,rfl,hr.ol,Sx.cut_all hl⟩⟩
def RS.lsB(hr:RS H h w v x l A B):LsH h (.slice (some ⟨H.length+5,0,tag 1⟩) (4*w*v) (4*w*v+1)) 1 encT B:=by
 have hl:=aG (e:=1) (enc:=encT) (l:=B) λa _=>lN a
 rw[←hr.lb]
 exact⟨λa _=>lN a,hl,.inr ⟨_,0,_,_,true,rfl,hr.kn,Sx.cut_all hl⟩⟩
def RS.keep{h':HL}(hr:RS H h w v x l A B)(hk:∀(j:Nat) o,j<H.length+6->h[j]?=some o->h'[j]?=some o)(hl:h.length<=h'.length):RS H h' w v x l A B:=by
 obtain⟨es,c,m1,m2⟩:=hr.mp
 refine⟨?_,qbj hr.len hl,hk _ _ (by omega) hr.p,⟨es,c,hk _ _ (by omega) m1,m2⟩,hk _ _ (by omega) hr.mv,hk _ _ (by omega) hr.ol,hk _ _ (by omega) hr.ov,hk _ _ (by omega) hr.kn,hr.la,hr.lb⟩
 have hpre:=hr.pre
 refine⟨h'.drop H.length,?_⟩
 apply qaZ
 intro i
 rcases qaO i H.length with hi|hi
 ·rw[qah hi]
  have e1:H[i]?=some H[i]:=qai hi
  rw[e1]
  exact hk _ _ (by omega) (hpre.get e1)
 ·rw[qaq hi,qaU,Nat.add_sub_cancel' hi]
def rm{α:Type}{id e:Nat}{enc:α->Tl}{L:List α}(hp:Pre H h)(hid:H.length<=id):Pre H (putE h id e enc L):=hp.set hid _
def we{α:Type}{h:HL}{id e:Nat}{enc:α->Tl}{L:List α}:(putE h id e enc L).length=h.length:=by simp[putE]
def RS.putA(hr:RS H h w v x l A B){A':List Mv}(ha:A'.length=A.length):RS H (putE h (H.length+3) 3 encM A') w v x l A' B:=by
 obtain⟨es,c,m1,m2⟩:=hr.mp
 have hl:=hr.len
 exact⟨rm hr.pre (by omega),by rw[we];exact hl,by rw[dg (by omega)];exact hr.p,⟨es,c,by rw[dg (by omega)];exact m1,m2⟩,by rw[dg (by omega)];exact hr.mv,dK (by omega),by rw[dg (by omega)];exact hr.ov,by rw[dg (by omega)];exact hr.kn,by rw[ha];exact hr.la,hr.lb⟩
def RS.putB(hr:RS H h w v x l A B){B':List Bool}(hb:B'.length=B.length):RS H (putE h (H.length+5) 1 encT B') w v x l A B':=by
 obtain⟨es,c,m1,m2⟩:=hr.mp
 have hl:=hr.len
 exact⟨rm hr.pre (by omega),by rw[we];exact hl,by rw[dg (by omega)];exact hr.p,⟨es,c,by rw[dg (by omega)];exact m1,m2⟩,by rw[dg (by omega)];exact hr.mv,by rw[dg (by omega)];exact hr.ol,by rw[dg (by omega)];exact hr.ov,dK (by omega),hr.la,by rw[hb];exact hr.lb⟩
end
end St
namespace St
def pS(w v:Nat)(l:TC)(G:Nat->Mv):Prop:=∀c e n,c<4*w*v->e<3->nbr w v c e=some n->G n=acM w l (G c) c n e
def cntT:List Bool->Nat
 | []=>0
 |b :: l=>(if b then 1 else 0)+cntT l
def mq:∀l:List Bool,cntT l<=l.length
 | []=>qaf _
 |b :: l=>by
  have:=mq l
  simp only[cntT,qaG]
  split<;>omega
def lM:∀ {l:List Bool} {n:Nat},l[n]?=some false->cntT (l.set n true)=cntT l+1
 | [],n,h=>by simp at h
 |b :: l,0,h=>by
  simp only[qaR,qas]at h
  subst h
  simp[cntT];omega
 |b :: l,n+1,h=>by
  simp only[qbf]at h
  have:=lM h
  simp only[List.set_cons_succ,cntT,this];omega
structure JS(w v:Nat)(l:TC)(A:List Mv)(B:List Bool)(q:TA)(D:Nat->Nat->Prop):Prop where
 a0:A[0]?=some idM
 b0:B[0]?=some true
 q1:∀c∈q,B[c]?=some true
 dn:∀c e n,D c e->c<4*w*v->e<3->nbr w v c e=some n->B[c]?=some true->c∉q->B[n]?=some true/\∃a,A[c]?=some a/\A[n]?=some (acM w l a c n e)
 bd:∀(c:Nat) a,B[c]?=some true->A[c]?=some a->okM 400 a
 un:∀G,pS w v l G->G 0=idM->∀(c:Nat) a,B[c]?=some true->A[c]?=some a->a=G c
structure GoodA(w v:Nat)(l:TC)(A:List Mv):Prop where
 len:A.length=4*w*v
 a0:A[0]?=some idM
 ok:∀a∈A,okM 400 a
 cons:∀c e n a,c<4*w*v->e<3->nbr w v c e=some n->A[c]?=some a->A[n]?=some (acM w l a c n e)
section
variable {w v:Nat} {l:TC} {A:List Mv} {B:List Bool} {q:TA}
def JS.start(hs:Sh w v):JS w v l (List.replicate (4*w*v) idM) ((List.replicate (4*w*v) false).set 0 true) [0] λ_ _=>True:=by
 have hN:0<4*w*v:=by
  obtain⟨h1,h2,rfl⟩:=hs
  omega
 have kn:∀c,((List.replicate (4*w*v) false).set 0 true)[c]?=some true->c=0:=by
  intro c hc
  by_cases h0:c=0
  ·exact h0
  ·rw[qaA (qcq h0),qa3]at hc
   split at hc<;>cases hc
 refine⟨by rw[qa3,qdy hN],by rw[qaJ (by simpa using hN)],λc hc=>?_,λc e n _ _ _ _ hb hq=>?_,λc a hb ha=>?_,λG hG h0 c a hb ha=>?_⟩
 ·simp only[qap]at hc
  subst hc
  rw[qaJ (by simpa using hN)]
 ·exact absurd (by rw[kn c hb];simp) hq
 ·have:=kn c hb
  subst this
  rw[qa3,qdy hN]at ha
  cases ha
  exact okM_id (by omega)
 ·have:=kn c hb
  subst this
  rw[qa3,qdy hN]at ha
  cases ha
  exact h0.symm
def JS.pop{c0:Nat}(h:JS w v l A B (c0 :: q) λ_ _=>True):JS w v l A B q λc e=>c=c0->e<0:=by
 refine⟨h.a0,h.b0,λc hc=>h.q1 c (qan _ hc),λc e n hd hc he hn hb hq=>?_,h.bd,h.un⟩
 by_cases hcc:c=c0
 ·have:=hd hcc;omega
 ·exact h.dn c e n trivial hc he hn hb λhm=>by
   rcases qal.1 hm with hm|hm
   ·exact hcc hm
   ·exact hq hm
def JS.skip{c0 j:Nat}(h:JS w v l A B q λc e=>c=c0->e<j)(hn:nbr w v c0 j=none):JS w v l A B q λc e=>c=c0->e<j+1:=by
 refine⟨h.a0,h.b0,h.q1,λc e n hd hc he hn' hb hq=>?_,h.bd,h.un⟩
 refine h.dn c e n (λhcc=>?_) hc he hn' hb hq
 have:=hd hcc
 rcases qaO e j with hlt|hge
 ·exact hlt
 ·obtain rfl:e=j:=by omega
  subst hcc
  rw[hn]at hn';cases hn'
def JS.seen{c0 j n:Nat}{a:Mv}(h:JS w v l A B q λc e=>c=c0->e<j)(hn:nbr w v c0 j=some n)(hb:B[n]?=some true)(ha:A[c0]?=some a)(hm:A[n]?=some (acM w l a c0 n j)):JS w v l A B q λc e=>c=c0->e<j+1:=by
 refine⟨h.a0,h.b0,h.q1,λc e n' hd hc he hn' hb' hq=>?_,h.bd,h.un⟩
 by_cases hcc:c=c0/\e=j
 ·obtain⟨rfl,rfl⟩:=hcc
  rw[hn]at hn';cases hn'
  exact⟨hb,a,ha,hm⟩
 ·exact h.dn c e n' (λhc'=>by have:=hd hc';have:e≠j:=λhe'=>hcc ⟨hc',he'⟩;omega) hc he hn' hb' hq
def JS.fresh(hs:Sh w v){c0 j n:Nat}{a:Mv}(h:JS w v l A B q λc e=>c=c0->e<j)(hla:A.length=4*w*v)(hlb:B.length=4*w*v)(hc0:c0<4*w*v)(hj:j<3)(hn:nbr w v c0 j=some n)(hb0:B[c0]?=some true)(hb:B[n]?=some false)(ha:A[c0]?=some a)(hbd:okM 400 (acM w l a c0 n j)) :
  JS w v l (A.set n (acM w l a c0 n j)) (B.set n true) (q++[n]) λc e=>c=c0->e<j+1:=by
 obtain⟨g1,_,_,_,g5⟩:=nb_ok hs hc0 hj hn
 have hBn:(B.set n true)[n]?=some true:=qaJ (by omega)
 have hAn:(A.set n (acM w l a c0 n j))[n]?=some (acM w l a c0 n j):=qaJ (by omega)
 have hB:∀c,c≠n->(B.set n true)[c]?=B[c]?:=λc hc=>qaA (qcq hc)
 have hA:∀c,c≠n->(A.set n (acM w l a c0 n j))[c]?=A[c]?:=λc hc=>qaA (qcq hc)
 have h0n:(0:Nat)≠n:=λe=>by have:=h.b0;rw[e,hb]at this;cases this
 refine⟨by rw[hA 0 h0n];exact h.a0,by rw[hB 0 h0n];exact h.b0,λc hc=>?_,λc e n' hd hc he hn' hbc hq=>?_,λc a' hbc hac=>?_,λG hG hG0 c a' hbc hac=>?_⟩
 ·rcases qao.1 hc with hc|hc
  ·have:=h.q1 c hc
   by_cases hcn:c=n
   ·rw[hcn];exact hBn
   ·rw[hB c hcn];exact this
  ·simp only[qap]at hc
   rw[hc];exact hBn
 ·have hcn:c≠n:=λe=>hq (by rw[e];simp)
  have hcq:c∉q:=λhm=>hq (qaH _ hm)
  rw[hB c hcn]at hbc
  by_cases hcc:c=c0/\e=j
  ·obtain⟨rfl,rfl⟩:=hcc
   rw[hn]at hn';cases hn'
   exact⟨hBn,a,by rw[hA c hcn];exact ha,hAn⟩
  ·obtain⟨d1,a1,d2,d3⟩:=h.dn c e n' (λhc'=>by have:=hd hc';have:e≠j:=λhe'=>hcc ⟨hc',he'⟩;omega) hc he hn' hbc hcq
   have hnn:n'≠n:=λe'=>by rw[e',hb]at d1;cases d1
   exact⟨by rw[hB n' hnn];exact d1,a1,by rw[hA c hcn];exact d2,by rw[hA n' hnn];exact d3⟩
 ·by_cases hcn:c=n
  ·rw[hcn,hAn]at hac
   cases hac
   exact hbd
  ·rw[hB c hcn]at hbc
   rw[hA c hcn]at hac
   exact h.bd c a' hbc hac
 ·by_cases hcn:c=n
  ·rw[hcn,hAn]at hac
   cases hac
   rw[hcn,hG c0 j n hc0 hj hn,←h.un G hG hG0 c0 a hb0 ha]
  ·rw[hB c hcn]at hbc
   rw[hA c hcn]at hac
   exact h.un G hG hG0 c a' hbc hac
def JS.done{c0:Nat}(h:JS w v l A B q λc e=>c=c0->e<3):JS w v l A B q λ_ _=>True:=
 ⟨h.a0,h.b0,h.q1,λc e n _ hc he hn hb hq=>h.dn c e n (λ_=>he) hc he hn hb hq,h.bd,h.un⟩
def sh_N(hs:Sh w v):0<4*w*v/\4*w*v<=240:=by
 obtain⟨h1,h2,rfl⟩:=hs
 omega
def JS.good(hs:Sh w v)(h:JS w v l A B [] λ_ _=>True)(hla:A.length=4*w*v)(hlb:B.length=4*w*v):GoodA w v l A:=by
 have hall:∀n,n<4*w*v->B[n]?=some true:=net_all hs h.b0 λc e n hc he hn hb=>(h.dn c e n trivial hc he hn hb (by simp)).1
 have hN:=sh_N hs
 have hcnt:=mq B
 refine⟨hla,h.a0,λa hm=>?_,λc e n a hc he hn ha=>?_⟩
 ·obtain⟨i,hi⟩:=qaW hm
  have:=aM hi
  exact h.bd i a (hall i (by omega)) hi
 ·obtain⟨_,a',g1,g2⟩:=h.dn c e n trivial hc he hn (hall c hc) (by simp)
  rw[ha]at g1;cases g1
  exact g2
def JS.tear(hs:Sh w v){c0 j n:Nat}{a b:Mv}{D:Nat->Nat->Prop}(h:JS w v l A B q D)(hc0:c0<4*w*v)(hj:j<3)(hn:nbr w v c0 j=some n)(hb0:B[c0]?=some true)(hb:B[n]?=some true)(ha:A[c0]?=some a)(hbn:A[n]?=some b)(hne:b≠acM w l a c0 n j):¬ ∃G,pS w v l G/\G 0=idM:=by
 rintro⟨G,hG,hG0⟩
 refine hne ?_
 rw[h.un G hG hG0 n b hb hbn,hG c0 j n hc0 hj hn,←h.un G hG hG0 c0 a hb0 ha]
end
def left(B:List Bool)(q:TA):Nat:=q.length+(B.length - cntT B)
end St
namespace St
def cnt_c{w v:Nat}(h:Sh w v):Cc 103 [.i (.ofNat w),.i (.ofNat v)] [.i (.ofNat (4*w*v))]:=by
 obtain⟨h1,h2,rfl⟩:=h
 rw[qcm]
 exact count_c ⟨h1,h2⟩
def eqsM{a b:Mv}{K:To}:P1.eqs [(.i (Int.ofNat a.1),.i (Int.ofNat b.1)),(.i a.2.1,.i b.2.1),(.i a.2.2,.i b.2.2)] (@hid _ ⟨K⟩)=K (decide (a=b)):=by
 show K (cp _)=_
 have e:cp [(.i (Int.ofNat a.1),.i (Int.ofNat b.1)),(.i a.2.1,.i b.2.1),(.i a.2.2,.i b.2.2)]=decide (a=b):=by
  rw[qbJ]
  simp[cp,gA,Prod.ext_iff]
  intro _ _
  omega
 rw[e]
def RelOk(w v:Nat)(l:TC)(H:HL)(rs:TD)(h':HL):Prop:=
 Pre H h'/\((∃A id,rs=[.v (.slice (some ⟨id,0,tag 3⟩) (4*w*v) (4*w*v+1)),.i 0]/\H.length<=id/\h'[id]?=some (.o (.cells (A.flatMap encM) 3 true))/\GoodA w v l A)∨
  (rs=[.v (.slice none 0 0),.i 11]/\¬ ∃G,pS w v l G/\G 0=idM))
def xw{w v:Nat}(hs:Sh w v){l:TC}(hk:(l.map cN).Nodup)(hl0:l.length<=1000){H:HL}{x:Value}(hl:LsH H x 3 encC l){G:Nat->Mv}(hG:pS w v l G)(hG0:G 0=idM)(hGb:∀c,c<4*w*v->okM 400 (G c)) :
  ∃rs h',aK cc ab 71 [.i (.ofNat w),.i (.ofNat v),.v x] (absH aa H) rs (absH aa h')/\RelOk w v l H rs h':=by
 have hN:=sh_N hs
 obtain⟨rs,h',h1,h2⟩:=x71 (K:=λrs h'=>RelOk w v l H rs h') (H:=H) (glsI (glsI (glsV hl.good gls0))) (by
  unfold f71;simp only[qxh]
  repeat (first|simp(disch:=omega)only[↓qXX]|refine cP (bG aH) rfl ?_|refine aq hl.good ?_)
  obtain⟨M,hcr,hSM⟩:=creased_c (w:=.ofNat w) (v:=.ofNat v) (hl.pre (h':=H++[HO.o (.cells [.int .i64 (.ofNat w),.int .i64 (.ofNat v),x] 3 true)]) ⟨_,rfl⟩) hk hl0
  rw[show(H++[HO.o (.cells [.int .i64 (.ofNat w),.int .i64 (.ofNat v),x] 3 true)]).length=H.length+1 by simp]at hcr hSM
  have k0:(H++[HO.o (.cells [.int .i64 (.ofNat w),.int .i64 (.ofNat v),x] 3 true)]++[M]).length=H.length+2:=by simp
  have kp:(H++[HO.o (.cells [.int .i64 (.ofNat w),.int .i64 (.ofNat v),x] 3 true)]++[M])[H.length]?=some (HO.o (.cells [.int .i64 (.ofNat w),.int .i64 (.ofNat v),x] 3 true)):=by simp
  have kH:Pre H (H++[HO.o (.cells [.int .i64 (.ofNat w),.int .i64 (.ofNat v),x] 3 true)]++[M]):=⟨_,qaP ..⟩
  refine am hcr ?_
  clear hcr
  generalize H++[HO.o (.cells [.int .i64 (.ofNat w),.int .i64 (.ofNat v),x] 3 true)]++[M]=h2 at *
  refine p_x ?_
  refine io aH rfl ?_
  rw[dL]
  have m0:(h2++[HO.o (.cells [.map (some (H.length+1))] 1 true)]).length=H.length+3:=by simp[k0]
  have mp:=kp |> (Pre.get (b:=h2++[HO.o (.cells [.map (some (H.length+1))] 1 true)]) ⟨_,rfl⟩)
  have mv:(h2++[HO.o (.cells [.map (some (H.length+1))] 1 true)])[H.length+2]?=some (HO.o (.cells [.map (some (H.length+1))] 1 true)):=by rw[←k0];exact aH
  have mH:Pre H (h2++[HO.o (.cells [.map (some (H.length+1))] 1 true)]):=kH.app _
  have mS:SetM (h2++[HO.o (.cells [.map (some (H.length+1))] 1 true)]) (H.length+1) l:=by
   obtain⟨es,c,a1,a2⟩:=hSM
   exact⟨es,c,Pre.get ⟨_,rfl⟩ a1,a2⟩
  rw[k0]
  generalize h2++[HO.o (.cells [.map (some (H.length+1))] 1 true)]=h3 at *
  clear kp kH hSM k0
  repeat (first|simp(disch:=omega)only[↓qXX]|refine vR (p:=ptrB H.length) (cs:=[.int .i64 (.ofNat w),.int .i64 (.ofNat v),x]) (ds:=[.int .i64 (.ofNat w),.int .i64 (.ofNat v)]) (bG mp) (by simp) rfl ?_|refine ae (cnt_c hs) ?_|refine af (qV (by omega)) ?_)
  rw[show(Int.ofNat (4*w*v)).toNat=4*w*v from rfl]
  have z0:HO.o (.cells (bm [.int .u8 0,.int .i64 0,.int .i64 0] (4*w*v)) 3 true)=HO.o (.cells ((List.replicate (4*w*v) idM).flatMap encM) 3 true):=by
   rw[←ik (enc:=encM) (z:=idM) (n:=4*w*v)]
   rfl
  rw[z0,m0]
  have n0:(h3++[HO.o (.cells ((List.replicate (4*w*v) idM).flatMap encM) 3 true)]).length=H.length+4:=by simp[m0]
  have np:=mp |> (Pre.get (b:=h3++[HO.o (.cells ((List.replicate (4*w*v) idM).flatMap encM) 3 true)]) ⟨_,rfl⟩)
  have nv:=mv |> (Pre.get (b:=h3++[HO.o (.cells ((List.replicate (4*w*v) idM).flatMap encM) 3 true)]) ⟨_,rfl⟩)
  have na:(h3++[HO.o (.cells ((List.replicate (4*w*v) idM).flatMap encM) 3 true)])[H.length+3]?=some (HO.o (.cells ((List.replicate (4*w*v) idM).flatMap encM) 3 true)):=by rw[←m0];exact aH
  have nH:Pre H (h3++[HO.o (.cells ((List.replicate (4*w*v) idM).flatMap encM) 3 true)]):=mH.app _
  have nS:SetM (h3++[HO.o (.cells ((List.replicate (4*w*v) idM).flatMap encM) 3 true)]) (H.length+1) l:=by
   obtain⟨es,c,a1,a2⟩:=mS
   exact⟨es,c,Pre.get ⟨_,rfl⟩ a1,a2⟩
  generalize h3++[HO.o (.cells ((List.replicate (4*w*v) idM).flatMap encM) 3 true)]=h4 at *
  clear mp mv mH mS m0
  refine io aH rfl ?_
  rw[dL]
  try simp(disch:=omega)only[↓qXX]
  refine cP (bG aH) rfl ?_
  refine p_x ?_
  refine aq (by simp[aW,noLoc,bj,bB,bu,aS,aJ]) ?_
  refine p_x ?_
  refine af (x:=Int.ofNat (4*w*v)) rfl ?_
  refine af (qV (by omega)) ?_
  refine p_x ?_
  rw[n0,show(Int.ofNat (4*w*v)).toNat=4*w*v from rfl]
  refine aq (by simp[aW,noLoc,bj,bB,bu,aS,aJ]) ?_
  have o0:(h4++[HO.o (.cells [.slice (some ⟨H.length+3,0,some 13⟩) (4*w*v) (4*w*v+1)] 1 true)]).length=H.length+5:=by simp[n0]
  have op:=np |> (Pre.get (b:=h4++[HO.o (.cells [.slice (some ⟨H.length+3,0,some 13⟩) (4*w*v) (4*w*v+1)] 1 true)]) ⟨_,rfl⟩)
  have om:=nv |> (Pre.get (b:=h4++[HO.o (.cells [.slice (some ⟨H.length+3,0,some 13⟩) (4*w*v) (4*w*v+1)] 1 true)]) ⟨_,rfl⟩)
  have oa:=na |> (Pre.get (b:=h4++[HO.o (.cells [.slice (some ⟨H.length+3,0,some 13⟩) (4*w*v) (4*w*v+1)] 1 true)]) ⟨_,rfl⟩)
  have ov:(h4++[HO.o (.cells [.slice (some ⟨H.length+3,0,some 13⟩) (4*w*v) (4*w*v+1)] 1 true)])[H.length+4]?=some (HO.o (.cells [.slice (some ⟨H.length+3,0,some 13⟩) (4*w*v) (4*w*v+1)] 1 true)):=by rw[←n0];exact aH
  have oH:Pre H (h4++[HO.o (.cells [.slice (some ⟨H.length+3,0,some 13⟩) (4*w*v) (4*w*v+1)] 1 true)]):=nH.app _
  have oS:SetM (h4++[HO.o (.cells [.slice (some ⟨H.length+3,0,some 13⟩) (4*w*v) (4*w*v+1)] 1 true)]) (H.length+1) l:=by
   obtain⟨es,c,a1,a2⟩:=nS
   exact⟨es,c,Pre.get ⟨_,rfl⟩ a1,a2⟩
  generalize h4++[HO.o (.cells [.slice (some ⟨H.length+3,0,some 13⟩) (4*w*v) (4*w*v+1)] 1 true)]=h5 at *
  clear np nv na nH nS n0
  have z1:HO.o (.cells (bm [.bool false] (4*w*v)) 1 true)=HO.o (.cells ((List.replicate (4*w*v) false).flatMap encT) 1 true):=by
   rw[←ik (enc:=encT) (z:=false) (n:=4*w*v)]
   rfl
  rw[z1,o0]
  have r0:RS H (h5++[HO.o (.cells ((List.replicate (4*w*v) false).flatMap encT) 1 true)]) w v x l (List.replicate (4*w*v) idM) (List.replicate (4*w*v) false):=by
   obtain⟨es,c,a1,a2⟩:=oS
   exact⟨oH.app _,by simp[o0],Pre.get ⟨_,rfl⟩ op,⟨es,c,Pre.get ⟨_,rfl⟩ a1,a2⟩,Pre.get ⟨_,rfl⟩ om,Pre.get ⟨_,rfl⟩ oa,Pre.get ⟨_,rfl⟩ ov,by rw[←o0];exact aH,by simp,by simp⟩
  generalize h5++[HO.o (.cells ((List.replicate (4*w*v) false).flatMap encT) 1 true)]=h6 at *
  clear op om oa ov oH oS o0
  refine tA (enc:=encT) (l:=List.replicate (4*w*v) false) (i:=0) (a:=true) lN r0.kn rfl (by simpa using hN.1) (by simp) rfl ?_
  have r1:=r0.putB (B':=(List.replicate (4*w*v) false).set 0 true) (by simp)
  generalize putE h6 (H.length+5) 1 encT ((List.replicate (4*w*v) false).set 0 true)=h7 at *
  try simp(disch:=omega)only[↓qXX]
  have r2:RS H (h7++[HO.o (.cells [.int .i64 0] 1 true)]) w v x l (List.replicate (4*w*v) idM) ((List.replicate (4*w*v) false).set 0 true):=r1.keep (λj o _ ho=>Pre.get ⟨_,rfl⟩ ho) (by simp)
  have hw0:WQ (H.length+6) (h7++[HO.o (.cells [.int .i64 0] 1 true)]) (.slice (some ⟨h7.length,0,some 11⟩) 1 2) [0]:=⟨h7.length,0,2,_,rfl,r1.len,aH,Sx.cut_all rfl,.inr rfl⟩
  have hj0:=JS.start (l:=l) hs
  have hc0:[0].length<=cntT ((List.replicate (4*w*v) false).set 0 true):=by
   rw[lM (by rw[qa3,qdy hN.1])]
   simp
  generalize h7++[HO.o (.cells [.int .i64 0] 1 true)]=h8 at *
  generalize Value.slice (some ⟨h7.length,0,some 11⟩) 1 2=v8 at *
  generalize List.replicate (4*w*v) idM=A0 at *
  generalize (List.replicate (4*w*v) false).set 0 true=B0 at *
  clear r0 r1
  refine gZ (m:=left B0 [0]) (λm ls h'=>∃A B q vv,ls=[.v vv]/\RS H h' w v x l A B/\WQ (H.length+6) h' vv q/\JS w v l A B q (λ_ _=>True)/\q.length<=cntT B/\m=left B q) ⟨A0,B0,[0],v8,rfl,r2,hw0,hj0,hc0,rfl⟩ ?_
  clear r2 hw0 hj0 hc0
  rintro m ls h' ⟨A,B,q,vv,rfl,hr,hw,hj,hql,rfl⟩ self hself
  refine hidL ?_
  refine p_x ?_
  refine bc hw.ls ?_
  cases q with
  |nil=>
   rw[p_gtr_f (by show((List.length ([]:TA):Nat):Int)<=0;simp)]
   repeat (first|simp(disch:=omega)only[↓qXX]|refine cP (bG hr.ov) rfl ?_|refine aq hr.lsA.good ?_)
   exact⟨hr.pre,.inl ⟨A,H.length+3,rfl,by omega,hr.ol,hj.good hs hr.la hr.lb⟩⟩
  |cons c0 q=>
   rw[p_gtr_t (by show(0:Int)<((List.length (c0 :: q):Nat):Int);simp only[qaG];omega)]
   refine p_x ?_
   refine aV hw.ls (i:=0) rfl rfl ?_
   unfold encN
   refine p_x ?_
   refine r_tail hw ?_
   intro v1 hw1 hv1
   refine aq hv1 ?_
   have hb0:B[c0]?=some true:=hj.q1 c0 qaB
   have hcN:c0<4*w*v:=by have:=aM hb0;have:=hr.lb;omega
   have hcl:=mq B
   refine cF (σ:=Value×HL×List Mv×List Bool×List Nat) 3 (λj s=>[.v s.1,.i (Int.ofNat j)]) (λ_ s=>s.2.1) (λj s=>RS H s.2.1 w v x l s.2.2.1 s.2.2.2.1/\WQ (H.length+6) s.2.1 s.1 s.2.2.2.2/\JS w v l s.2.2.1 s.2.2.2.1 s.2.2.2.2 (λc e=>c=c0->e<j)/\s.2.2.2.2.length<=cntT s.2.2.2.1/\left s.2.2.2.1 s.2.2.2.2=left B q/\s.2.2.2.1[c0]?=some true) (j0:=0) (s0:=(v1,h',A,B,q)) rfl rfl (by omega) ⟨hr,hw1,hj.pop,by show q.length<=cntT B;simp only[qaG]at hql;omega,rfl,hb0⟩ ?_
   clear hr hw hj hw1 hv1 hb0
   rintro j ⟨v2,h2',A2,B2,q2⟩ hj3 ⟨hr,hw,hj,hq2,hleft,hb0⟩ self2 hself2
   simp only at hr hw hj hq2 hleft hb0 hself2
   refine p_x ?_
   by_cases hlt:j<3
   case neg=>
    obtain rfl:j=3:=by omega
    rw[p_lss_f (by show(3:Int)<=((3:Nat):Int);omega)]
    refine p_x ?_
    refine hself (left B q) _ _ ?_ ⟨A2,B2,q2,v2,rfl,hr,hw,hj.done,hq2,hleft.symm⟩
    unfold left
    simp only[qaG];omega
   rw[p_lss_t (by show((j:Nat):Int)<3;omega)]
   refine p_x ?_
   have next:∀(v3:Value) (h3':HL) (A3:List Mv) (B3:List Bool) (q3:TA),RS H h3' w v x l A3 B3->WQ (H.length+6) h3' v3 q3->JS w v l A3 B3 q3 (λc e=>c=c0->e<j+1)->q3.length<=cntT B3->left B3 q3=left B q->B3[c0]?=some true->self2 [.v v3,.i (Int.ofNat j+1)] h3':=λv3 h3' A3 B3 q3 a1 a2 a3 a4 a5 a6=>hself2 (v3,h3',A3,B3,q3) hlt ⟨a1,a2,a3,a4,a5,a6⟩
   have hadd:∀K:Int->Prop,P1.ari .add .u8 (Int.ofNat j) 1 (@hid _ ⟨K⟩)=K (Int.ofNat j+1):=λK=>p_add8 (by show(0:Int)<=(j:Int)+1;omega) (by show(j:Int)+1<=255;omega)
   refine vR (p:=ptrB H.length) (cs:=[.int .i64 (.ofNat w),.int .i64 (.ofNat v),x]) (ds:=[.int .i64 (.ofNat w),.int .i64 (.ofNat v)]) (bG hr.p) (by simp) rfl ?_
   refine p_x ?_
   refine ae (nb_c hs hcN hlt) ?_
   have hcl2:=mq B2
   have hlb2:=hr.lb
   cases hnb:nbr w v c0 j with
   |none=>
    unfold be
    rw[hnb]
    refine p_x ?_
    rw[hadd]
    exact next _ _ _ _ _ hr hw (hj.skip hnb) hq2 hleft hb0
   |some n=>
    unfold be
    rw[hnb]
    refine p_x ?_
    obtain⟨a,ha⟩:=aY (l:=A2) (i:=c0) (by rw[hr.la];exact hcN)
    have hok:=hj.bd c0 a hb0 ha
    have hac:=across_c hs (bG hr.p) (bG hr.mv) hr.mp (bG hr.ov) hr.lsA hcN hlt hnb ha hok (by omega)
    refine fR (gk (args:=[.int .i64 (Int.ofNat c0),.int .u8 (Int.ofNat j)]) hac rfl [.leaf (.i .i64 (Int.ofNat c0)),.leaf (.i .u8 (Int.ofNat j)),.leaf (.v (ptrB H.length)),.leaf (.v (ptrB (H.length+2))),.leaf (.v (ptrB (H.length+4)))] rfl rfl rfl) ?_
    have hnN:=(nb_ok hs hcN hlt hnb).1
    have hnc:=(nb_ok hs hcN hlt hnb).2.2.2.2
    generalize hm:acM w l a c0 n j=m at *
    simp only[mvl]
    refine p_x ?_
    obtain⟨t,ht⟩:=aY (l:=B2) (i:=n) (by rw[hr.lb];exact hnN)
    refine aV hr.lsB rfl ht ?_
    unfold encT
    refine p_x ?_
    cases t with
    |true=>
     repeat (first|simp(disch:=omega)only[↓qXX,qaE]|refine cP (bG hr.ov) rfl ?_|refine aq hr.lsA.good ?_)
     obtain⟨b,hb⟩:=aY (l:=A2) (i:=n) (by rw[hr.la];exact hnN)
     refine aV hr.lsA rfl hb ?_
     unfold encM
     refine p_x ?_
     rw[eqsM]
     by_cases hbm:b=m
     ·rw[qdx hbm]
      simp(disch:=omega)only[↓qXX,qaE]
      rw[hadd]
      exact next _ _ _ _ _ hr hw (hj.seen hnb ht ha (by rw[hb,hbm,hm])) hq2 hleft hb0
     ·rw[qdw hbm]
      simp(disch:=omega)only[↓qXX,qba]
      exact⟨hr.pre,.inr ⟨rfl,hj.tear hs hcN hlt hnb hb0 ht ha hb (by rw[hm];exact hbm)⟩⟩
    |false=>
     repeat (first|simp(disch:=omega)only[↓qXX,qba]|refine cP (bG hr.ov) rfl ?_|refine aq hr.lsA.good ?_)
     refine tA (enc:=encM) (l:=A2) (i:=n) (a:=m) fG hr.ol rfl (by rw[hr.la];exact hnN) hr.la rfl ?_
     have hrA:=hr.putA (A':=A2.set n m) (by simp)
     have hwA:=hw.keep (h':=putE h2' (H.length+3) 3 encM (A2.set n m)) (λj o hjb ho=>by rw[dg (by omega)];exact ho)
     generalize putE h2' (H.length+3) 3 encM (A2.set n m)=h3' at *
     try simp(disch:=omega)only[↓qXX]
     refine tA (enc:=encT) (l:=B2) (i:=n) (a:=true) lN hrA.kn rfl (by rw[hr.lb];exact hnN) hr.lb rfl ?_
     have hrB:=hrA.putB (B':=B2.set n true) (by simp)
     have hwB:=hwA.keep (h':=putE h3' (H.length+5) 1 encT (B2.set n true)) (λj o hjb ho=>by rw[dg (by omega)];exact ho)
     generalize putE h3' (H.length+5) 1 encT (B2.set n true)=h4' at *
     try simp(disch:=omega)only[↓qXX]
     refine r_apQ (n:=n) hwB hrB.len rfl rfl (by omega) ?_
     intro v5 h5' hw5 hv5 hk5 hl5
     have hr5:=hrB.keep hk5 hl5
     repeat (first|simp(disch:=omega)only[↓qXX]|refine aq hv5 ?_|refine cP (bG hr5.ov) rfl ?_|refine aq hr5.lsA.good ?_)
     refine aV hr5.lsA (a:=m) rfl (qaJ (by rw[hr.la];exact hnN)) ?_
     unfold encM
     simp(disch:=omega)only[↓qXX]
     try rw[eqsM,qdx rfl]
     simp(disch:=omega)only[↓qXX,qaE]
     rw[hadd]
     refine next _ _ _ _ _ hr5 hw5 ?_ ?_ ?_ ?_
     ·rw[←hm]
      exact hj.fresh hs hr.la hr.lb hcN hlt hnb hb0 ht ha (by rw[hj.un G hG hG0 c0 a hb0 ha,←hG c0 j n hcN hlt hnb];exact hGb n hnN)
     ·rw[lM ht];simp;omega
     ·rw[←hleft]
      have:=mq (B2.set n true)
      unfold left
      rw[lM ht]at this ⊢
      simp only[qaC,qaG,qbG,qbx]at this ⊢
      omega
     ·rw[qaA hnc];exact hb0)
 exact⟨rs,h',h1,h2⟩
end St
namespace St
def aF(c:Cl):Tl:=[.int .i64 c.1,.int .i64 c.2.1,.int .u8 (Int.ofNat c.2.2)]
def bN(c:Cl):(aF c).length=3:=rfl
def moveC_rng{m:Mv}{n:Int}(hm:okM n m){c:Cl}{k:Int}(hc:-k<=c.1/\c.1<=k/\-k<=c.2.1/\c.2.1<=k):-(n+k+1)<=(iN m c).1/\(iN m c).1<=n+k+1/\-(n+k+1)<=(iN m c).2.1/\(iN m c).2.1<=n+k+1/\(iN m c).2.2<4:=by
 have h1:=lin_rng hm.1 hc
 have h2:=hm.2
 unfold iN
 simp only
 refine⟨?_,?_,?_,?_,qT_lt⟩<;>split<;>omega
def move_c{m:Mv}(hm:okM 3000 m){c:Cl}(hc:-1000<=c.1/\c.1<=1000/\-1000<=c.2.1/\c.2.1<=1000/\c.2.2<4):Cc 74 (mvl m++cll c) (cll (iN m c)++[.i 0]):=by
 have h1:=moveC_rng hm (k:=1000) ⟨hc.1,hc.2.1,hc.2.2.1,hc.2.2.2.1⟩
 refine q74 rfl ?_;unfold f74;simp only[qxh]
 simp only[mvl,cll,qa2,qaS]
 refine p_x ?_
 refine ae (xo hm (by omega)) ?_
 refine p_x ?_
 refine ae (sa (c:=c) ⟨by omega,by omega,by omega,by omega,hc.2.2.2.2⟩) ?_
 refine p_x ?_
 refine ae (moved_c (hQ hm (by omega)) hc) ?_
 simp only[cll]
 refine p_x ?_
 refine ae (sa (c:=iN m c) ⟨by omega,by omega,by omega,by omega,h1.2.2.2.2⟩) ?_
 refine p_x ?_
 rfl
def GoodA.eq{w v:Nat}{l:TC}{A:List Mv}(hs:Sh w v)(hA:GoodA w v l A){G:Nat->Mv}(hG:pS w v l G)(h0:G 0=idM):∀c,c<4*w*v->A[c]?=some (G c):=
 net_all hs (by rw[h0];exact hA.a0) λc e n hc he hn h=>by rw[hG c e n hc he hn];exact hA.cons c e n _ hc he hn h
def plL(w v:Nat)(G:Nat->Mv)(r:Mv):List Mv:=(List.range (4*w*v)).map λc=>cG (G c) r
abbrev _root_.TJ:=List Cl
def imL(w v:Nat)(G:Nat->Mv)(r:Mv):TJ:=(List.range (4*w*v)).map λc=>iN (cG (G c) r) (clN w c)
def plL_get{w v:Nat}{G:Nat->Mv}{r:Mv}{c:Nat}(h:c<4*w*v):(plL w v G r)[c]?=some (cG (G c) r):=by
 unfold plL
 rw[qax,qci h];rfl
def imL_get{w v:Nat}{G:Nat->Mv}{r:Mv}{c:Nat}(h:c<4*w*v):(imL w v G r)[c]?=some (iN (cG (G c) r) (clN w c)):=by
 unfold imL
 rw[qax,qci h];rfl
def take_set{α:Type}{L A:List α}{j:Nat}{a:α}(hL:L[j]?=some a)(hlen:L.length=A.length):(L.take j++A.drop j).set j a=L.take (j+1)++A.drop (j+1):=by
 have hj:=aM hL
 have h1:(L.take j).length=j:=by rw[qaI];omega
 rw[qb1 _ _ (by omega),h1,qbC,qaY (by omega),qc9,qby,hL]
 simp
def mid_get{α:Type}{L A:List α}{j:Nat}{a:α}(hA:A[j]?=some a)(hlen:L.length=A.length):(L.take j++A.drop j)[j]?=some a:=by
 have hj:=aM hA
 rw[qaq (by rw[qaI];omega),qaI,qa8 (by omega),qbC,qaU,qcb]
 exact hA
def ux{α:Type}{L A:List α}{j:Nat}(hlen:L.length=A.length)(hj:j<=L.length):(L.take j++A.drop j).length=A.length:=by
 rw[qaC,qaI,qbN];omega
def ko{α:Type}{e cx n:Nat}{enc:α->Tl}(henc:∀a,(enc a).length=e){h:HL}{id:Nat}{L:List α}(hg:h[id]?=some (.o (.cells (L.flatMap enc) e true)))(hn:n=L.length):LsH h (.slice (some ⟨id,0,tag e⟩) n cx) e enc L:=by
 subst hn
 have hl:=aG (e:=e) (enc:=enc) (l:=L) λa _=>henc a
 exact⟨λa _=>henc a,hl,.inr ⟨id,0,cx,_,true,rfl,hg,Sx.cut_all hl⟩⟩
def cell_v{w v:Nat}(h:Sh w v){c:Nat}(hc:c<4*w*v):Cc 72 [.i (.ofNat w),.i (.ofNat v),.i (.ofNat c)] [.i (.ofNat (c / 4%w)),.i (.ofNat (c / 4 / w)),.i (.ofNat (c%4)),.i 0]:=by
 obtain⟨h1,h2,rfl⟩:=h
 exact vd ⟨h1,h2⟩ (by omega)
def both_c{w v:Nat}(hs:Sh w v){l:TC}(hk:(l.map cN).Nodup)(hl0:l.length<=1000){H:HL}{x:Value}(hl:LsH H x 3 encC l)(hck:aK cc ab 69 [.i (.ofNat w),.i (.ofNat v),.v x] (absH aa H) [.i 0] (absH aa H))
  {G:Nat->Mv} (hG:pS w v l G) (h0:G 0=idM) (hGb:∀c,c<4*w*v->okM 400 (G c)) {r:Mv} (hr:okM 900 r) :
  ∃lx ix h',aK cc ab 63 ([.i (.ofNat w),.i (.ofNat v),.v x]++mvl r) (absH aa H) [.v lx,.v ix,.i 0] (absH aa h')/\Pre H h'/\LsH h' lx 3 encM (plL w v G r)/\LsH h' ix 3 aF (imL w v G r):=by
 have hN:=sh_N hs
 obtain⟨rs1,h1,c1,hpre1,hrel⟩:=xw hs hk hl0 hl hG h0 hGb
 rcases hrel with⟨A,id,rfl,hid,hol,hA⟩|⟨_,hno⟩
 case inr=>exact absurd ⟨G,hG,h0⟩ hno
 have hAG:=hA.eq hs hG h0
 have hP:(plL w v G r).length=A.length:=by rw[hA.len];simp[plL]
 have hI:(imL w v G r).length=4*w*v:=by simp[imL]
 have hidl:=aM hol
 obtain⟨rs,h',hc,lx,ix,rfl,hpre,hp1,hp2⟩:=x63 (ls:=[.i (.ofNat w),.i (.ofNat v),.v x,.i (Int.ofNat r.1),.i r.2.1,.i r.2.2]) (K:=λrs h'=>∃lx ix,rs=[.v lx,.v ix,.i 0]/\Pre H h'/\LsH h' lx 3 encM (plL w v G r)/\LsH h' ix 3 aF (imL w v G r)) (H:=H) (glsI (glsI (glsV hl.good (glsI (glsI (glsI gls0)))))) (by
  unfold f63;simp only[qxh]
  refine p_x ?_
  refine am hck ?_
  refine p_x ?_
  refine ae (xo hr (by omega)) ?_
  refine p_x ?_
  refine am c1 ?_
  refine p_x ?_
  refine af (x:=Int.ofNat (4*w*v)) rfl ?_
  refine af (qV (by omega)) ?_
  refine p_x ?_
  rw[show(Int.ofNat (4*w*v)).toNat=4*w*v from rfl]
  have z0:HO.o (.cells (bm [.int .i64 0,.int .i64 0,.int .u8 0] (4*w*v)) 3 true)=HO.o (.cells ((List.replicate (4*w*v) ((0,0,0):Cl)).flatMap aF) 3 true):=by
   rw[←ik (enc:=aF) (z:=((0,0,0):Cl)) (n:=4*w*v)]
   rfl
  rw[z0]
  refine af (x:=Int.ofNat (4*w*v)) rfl ?_
  have hZ:(imL w v G r).length=(List.replicate (4*w*v) ((0,0,0):Cl)).length:=by rw[hI];simp
  have s1:(h1++[HO.o (.cells ((List.replicate (4*w*v) ((0,0,0):Cl)).flatMap aF) 3 true)])[id]?=some (.o (.cells (A.flatMap encM) 3 true)):=Pre.get ⟨_,rfl⟩ hol
  have s2:(h1++[HO.o (.cells ((List.replicate (4*w*v) ((0,0,0):Cl)).flatMap aF) 3 true)])[h1.length]?=some (HO.o (.cells ((List.replicate (4*w*v) ((0,0,0):Cl)).flatMap aF) 3 true)):=aH
  have s3:Pre H (h1++[HO.o (.cells ((List.replicate (4*w*v) ((0,0,0):Cl)).flatMap aF) 3 true)]):=hpre1.app _
  have hix:h1.length≠id:=by omega
  have hHi:H.length<=h1.length:=hpre1.len
  generalize List.replicate (4*w*v) ((0,0,0):Cl)=Z at *
  generalize h1++[HO.o (.cells (Z.flatMap aF) 3 true)]=h2 at *
  generalize h1.length=iX at *
  refine cF (σ:=HL) (4*w*v) (λj _=>[.i (Int.ofNat j)]) (λ_ s=>s) (λj s=>Pre H s/\s[id]?=some (.o (.cells (((plL w v G r).take j++A.drop j).flatMap encM) 3 true))/\s[iX]?=some (.o (.cells (((imL w v G r).take j++Z.drop j).flatMap aF) 3 true))) (j0:=0) (s0:=h2) rfl rfl (qaX _) ⟨s3,by simpa using s1,by simpa using s2⟩ ?_
  clear s1 s2 s3
  rintro j h hj ⟨s3,s1,s2⟩ self hself
  refine p_x ?_
  by_cases hlt:j<4*w*v
  ·rw[aR hlt]
   refine p_x ?_
   have ha:=hAG j hlt
   have hLj:=plL_get (G:=G) (r:=r) hlt
   have hIj:=imL_get (G:=G) (r:=r) hlt
   have lenP:=ux (j:=j) hP (by rw[hP,hA.len];omega)
   have lenI:=ux (j:=j) hZ (by rw[hI];omega)
   refine aV (ko fG s1 (by rw[lenP,hA.len])) rfl (mid_get ha hP) ?_
   unfold encM
   refine p_x ?_
   refine ae (cell_v hs hlt) ?_
   refine p_x ?_
   have okG:okM 400 (G j):=hA.ok _ (qab ha)
   have okT:=qY okG hr
   refine ae (then_c okG hr (by omega)) ?_
   generalize cG (G j) r=m at *
   simp only[mvl,qa2,qaS]
   refine p_x ?_
   refine tA (enc:=encM) (l:=(plL w v G r).take j++A.drop j) (i:=j) (a:=m) fG s1 rfl (by rw[lenP,hA.len];exact hlt) (by rw[lenP,hA.len]) rfl ?_
   rw[take_set hLj hP]
   have s1':(putE h id 3 encM ((plL w v G r).take (j+1)++A.drop (j+1)))[id]?=some (.o (.cells (((plL w v G r).take (j+1)++A.drop (j+1)).flatMap encM) 3 true)):=dK (aM s1)
   have s2':(putE h id 3 encM ((plL w v G r).take (j+1)++A.drop (j+1)))[iX]?=some (.o (.cells (((imL w v G r).take j++Z.drop j).flatMap aF) 3 true)):=by rw[dg hix];exact s2
   have s3':Pre H (putE h id 3 encM ((plL w v G r).take (j+1)++A.drop (j+1))):=rm s3 hid
   generalize putE h id 3 encM ((plL w v G r).take (j+1)++A.drop (j+1))=h3 at *
   refine p_x ?_
   have lenP1:=ux (j:=j+1) hP (by rw[hP,hA.len];omega)
   refine aV (a:=m) (ko fG s1' (by rw[lenP1,hA.len])) rfl ?_ ?_
   ·rw[qah (by rw[qaI,hP,hA.len];omega),qaT,qdy (by omega)]
    exact hLj
   unfold encM
   refine p_x ?_
   have hcell:-1000<=(clN w j).1/\(clN w j).1<=1000/\-1000<=(clN w j).2.1/\(clN w j).2.1<=1000/\(clN w j).2.2<4:=by
    have d1:j / 4%w<=j / 4:=Nat.mod_le _ _
    have d2:j / 4 / w<=j / 4:=Nat.div_le_self _ _
    refine⟨?_,?_,?_,?_,qbz _ (by omega)⟩
    ·exact Int.le_trans (show(-1000:Int)<=0 by decide) (qav _)
    ·exact Int.ofNat_le.2 (show j / 4%w<=1000 by omega)
    ·exact Int.le_trans (show(-1000:Int)<=0 by decide) (qav _)
    ·exact Int.ofNat_le.2 (show j / 4 / w<=1000 by omega)
   refine ae (move_c (c:=clN w j) (hQ okT (by omega)) hcell) ?_
   generalize iN m (clN w j)=ci at *
   simp only[cll,qa2,qaS]
   refine p_x ?_
   refine tA (enc:=aF) (l:=(imL w v G r).take j++Z.drop j) (i:=j) (a:=ci) bN s2' rfl (by rw[lenI,←hZ,hI];exact hlt) (by rw[lenI,←hZ,hI]) rfl ?_
   rw[take_set hIj hZ]
   refine p_x ?_
   rw[aU (by omega)]
   refine hself _ hlt ⟨rm s3' hHi,by rw[dg (qcq hix)];exact s1',dK (aM s2')⟩
  ·obtain rfl:j=4*w*v:=by omega
   rw[bi (qaf _)]
   refine p_x ?_
   rw[qaQ (by rw[hP,hA.len];exact qaf _),qbu (by rw[hA.len];exact qaf _),qa4]at s1
   rw[qaQ (by rw[hI];exact qaf _),qbu (by rw[←hZ,hI];exact qaf _),qa4]at s2
   exact⟨_,_,rfl,s3,ko fG s1 (by rw[hP,hA.len]),ko bN s2 (by rw[hI])⟩)
 exact⟨lx,ix,h',hc,hpre,hp1,hp2⟩
def images_c{w v:Nat}(hs:Sh w v){l:TC}(hk:(l.map cN).Nodup)(hl0:l.length<=1000){H:HL}{x:Value}(hl:LsH H x 3 encC l)(hck:aK cc ab 69 [.i (.ofNat w),.i (.ofNat v),.v x] (absH aa H) [.i 0] (absH aa H))
  {G:Nat->Mv} (hG:pS w v l G) (h0:G 0=idM) (hGb:∀c,c<4*w*v->okM 400 (G c)) {r:Mv} (hr:okM 900 r) :
  ∃ix h',aK cc ab 50 ([.i (.ofNat w),.i (.ofNat v),.v x]++mvl r) (absH aa H) [.v ix,.i 0] (absH aa h')/\Pre H h'/\LsH h' ix 3 aF (imL w v G r):=by
 obtain⟨lx,ix,h1,c1,p1,p2,p3⟩:=both_c hs hk hl0 hl hck hG h0 hGb hr
 obtain⟨rs,h',hc,rfl,rfl⟩:=x50 (ls:=[.i (.ofNat w),.i (.ofNat v),.v x,.i (Int.ofNat r.1),.i r.2.1,.i r.2.2]) (K:=λrs h'=>rs=[.v ix,.i 0]/\h'=h1) (H:=H) (glsI (glsI (glsV hl.good (glsI (glsI (glsI gls0)))))) (by
  unfold f50;simp only[qxh]
  refine p_x ?_
  refine am c1 ?_
  simp(disch:=omega)only[↓qXX]
  trivial)
 exact⟨ix,_,hc,p1,p3⟩
end St
namespace St
def dX(t:Nat):Int:=if mA t+mB t=1 then 0 else 1
def dY(t:Nat):Int:=if mC t+mD t=1 then 0 else 1
def Pm(t s:Nat)(x y:Int):Mv:=(t,x - mA t*(s:Int)+dX t,y - mC t*(s:Int)+dY t)
def Pm_fwd{t s:Nat}{x y:Int}(ht:t<8):Pm t (s+1) (x+mA t) (y+mC t)=Pm t s x y:=by
 unfold Pm dX dY
 rcases t8 ht with rfl|rfl|rfl|rfl|rfl|rfl|rfl|rfl<;>simp[mA,mB,mC,mD]<;>omega
def Pm_V{t s:Nat}{x y:Int}(ht:t<8):cG (ofM (1,Int.ofNat s+1)) (Pm t s x y)=Pm (mulT 4 t) (s+1) x y:=by
 unfold Pm dX dY cG ofM
 rcases t8 ht with rfl|rfl|rfl|rfl|rfl|rfl|rfl|rfl<;>simp[mulT,mA,mB,mC,mD]<;>omega
def Pm_D{t s:Nat}{x y:Int}(ht:t<8):cG (ofM (4,0 - Int.ofNat s)) (Pm t s x y)=Pm (mulT 7 t) s x y:=by
 unfold Pm dX dY cG ofM
 rcases t8 ht with rfl|rfl|rfl|rfl|rfl|rfl|rfl|rfl<;>simp[mulT,mA,mB,mC,mD]<;>omega
def Pm_U{t s:Nat}{x y:Int}(ht:t<8):cG (ofM (3,Int.ofNat s+0+1)) (Pm t s x y)=Pm (mulT 5 t) s x y:=by
 unfold Pm dX dY cG ofM
 rcases t8 ht with rfl|rfl|rfl|rfl|rfl|rfl|rfl|rfl<;>simp[mulT,mA,mB,mC,mD]<;>omega
def Pm_cell{t s q:Nat}{x y:Int}(ht:t<8):iN (Pm t s x y) (Int.ofNat s,0,q)=(x,y,qT t q):=by
 unfold Pm dX dY iN
 rcases t8 ht with rfl|rfl|rfl|rfl|rfl|rfl|rfl|rfl<;>simp[mA,mB,mC,mD]<;>omega
def Pm_id:Pm 0 0 0 0=idM:=by simp[Pm,dX,dY,idM,mA,mB,mC,mD]
def two7{t:Nat}(ht:t<8):mulT 7 (mulT 7 t)=t:=by
 rcases t8 ht with rfl|rfl|rfl|rfl|rfl|rfl|rfl|rfl<;>rfl
def two5{t:Nat}(ht:t<8):mulT 5 (mulT 5 t)=t:=by
 rcases t8 ht with rfl|rfl|rfl|rfl|rfl|rfl|rfl|rfl<;>rfl
def ex(f t:Nat):Nat:=if f=1 then mulT 7 t else if f=2 then mulT 5 t else t
def je{f t:Nat}(ht:t<8):ex f t<8:=by
 unfold ex
 split
 ·exact gK
 ·split
  ·exact gK
  ·exact ht
def half(f q:Nat):Bool:=(decide (f=1)&&decide (q<2))||(decide (f=2)&&(decide (q=1)||decide (q=2)))
structure Rib(w:Nat)(f:TB)(b:Ty)(t:TB)(x y:Nat->Int):Prop where
 t0:t 0=0
 x0:x 0=0
 y0:y 0=0
 nt:∀s,s+1<w->t (s+1)=if b s then mulT 4 (ex (f s) (t s))else ex (f s) (t s)
 nx:∀s,s+1<w->x (s+1)=if b s then x s else x s+mA (ex (f s) (t s))
 ny:∀s,s+1<w->y (s+1)=if b s then y s else y s+mC (ex (f s) (t s))
structure CrOf(w:Nat)(l:TC)(f:TB)(b:Ty):Prop where
 d0:∀s,s<w->isCr l (4*s+0) 2=decide (f s=1)
 d1:∀s,s<w->isCr l (4*s+1) 2=decide (f s=1)
 u0:∀s,s<w->isCr l (4*s+0) 1=decide (f s=2)
 u2:∀s,s<w->isCr l (4*s+2) 1=decide (f s=2)
 v:∀s,s+1<w->isCr l (4*s+1) 0=b s
def GA(f t:TB)(x y:Nat->Int)(c:Nat):Mv:=Pm (if half (f (c / 4)) (c%4)then ex (f (c / 4)) (t (c / 4))else t (c / 4)) (c / 4) (x (c / 4)) (y (c / 4))
section
variable {w:Nat} {l:TC} {f t:TB} {b:Ty} {x y:Nat->Int}
def GA_q{s q:Nat}(hq:q<4):GA f t x y (4*s+q)=Pm (if half (f s) q then ex (f s) (t s)else t s) s (x s) (y s):=by
 unfold GA
 rw[show(4*s+q) / 4=s by omega,show(4*s+q)%4=q by omega]
def Rib.lt(h:Rib w f b t x y):∀s,s<w->t s<8:=by
 intro s
 induction s with
 |zero=>intro _;rw[h.t0];omega
 |succ s ih=>
  intro hs
  rw[h.nt s hs]
  have:=ih (by omega)
  split
  ·exact gK
  ·exact je this
def GA_lt(h:Rib w f b t x y){c:Nat}(hc:c / 4<w):(GA f t x y c).1<8:=by
 have:=h.lt _ hc
 unfold GA Pm
 simp only
 split
 ·exact je this
 ·exact this
def gw(h:Rib w f b t x y){s q p e z:Nat}(hs:s<w)(hq:q<4)(hp:p<4)(hz:(e=1/\z=2)∨(e=2/\z=1))(hqp:half z q = !half z p)(hsame:∀g,g≠z->half g q=half g p) :
  GA f t x y (4*s+p)=if decide (f s=z)then cG (ofM (lnC3 (Int.ofNat s,0,q) e)) (GA f t x y (4*s+q))else GA f t x y (4*s+q):=by
 have ht:=h.lt s hs
 have hex:=je (f:=f s) ht
 rw[GA_q hp,GA_q hq]
 by_cases hf:f s=z
 ·rw[qdx hf,qdy rfl,hf]
  rcases hz with⟨rfl,rfl⟩|⟨rfl,rfl⟩
  ·show _=cG (ofM (3,Int.ofNat s+0+1)) _
   cases h1:half 2 q with
   |true=>
    rw[h1]at hqp
    have h2:half 2 p=false:=by cases h3:half 2 p with|true=>rw[h3]at hqp;cases hqp|false=>rfl
    rw[h2,qdy rfl,qdz (by simp),Pm_U (je ht)]
    show Pm (t s) s _ _=Pm (mulT 5 (mulT 5 (t s))) s _ _
    rw[two5 ht]
   |false=>
    rw[h1]at hqp
    have h2:half 2 p=true:=by cases h3:half 2 p with|false=>rw[h3]at hqp;cases hqp|true=>rfl
    rw[h2,qdy rfl,qdz (by simp),Pm_U ht]
    rfl
  ·show _=cG (ofM (4,0 - Int.ofNat s)) _
   cases h1:half 1 q with
   |true=>
    rw[h1]at hqp
    have h2:half 1 p=false:=by cases h3:half 1 p with|true=>rw[h3]at hqp;cases hqp|false=>rfl
    rw[h2,qdy rfl,qdz (by simp),Pm_D (je ht)]
    show Pm (t s) s _ _=Pm (mulT 7 (mulT 7 (t s))) s _ _
    rw[two7 ht]
   |false=>
    rw[h1]at hqp
    have h2:half 1 p=true:=by cases h3:half 1 p with|false=>rw[h3]at hqp;cases hqp|true=>rfl
    rw[h2,qdy rfl,qdz (by simp),Pm_D ht]
    rfl
 ·rw[qdw hf]
  simp only[qam,if_false,hsame _ hf]
def half3(g:Nat):half g 3=false:=by simp[half]
def half1(h:t 0=t 0){s:Nat}:(if half (f s) 1 then ex (f s) (t s)else t s)=ex (f s) (t s):=by
 unfold half ex
 by_cases h1:f s=1
 ·simp[h1]
 ·by_cases h2:f s=2
  ·simp[h2]
  ·simp[h1,h2]
def cons(h:Rib w f b t x y)(hw:1<=w/\w<=60)(hC:CrOf w l f b):pS w 1 l (GA f t x y):=by
 have hSh:Sh w 1:=⟨hw.1,hw.2,rfl⟩
 intro c e n hc he hn
 obtain⟨_,hln⟩:=name_nb hSh hc he hn
 unfold acM
 rw[hln]
 obtain⟨_,_,s,q,rfl,hs,hq⟩:=hSh.q hc
 rw[clS hs hq]
 rw[eO hs hq]at hn
 have he':e=0∨e=1∨e=2:=by omega
 rcases q4 hq with rfl|rfl|rfl|rfl<;>rcases he' with rfl|rfl|rfl<;>unfold nbrQ at hn<;>simp only at hn
 ·cases hn
 ·obtain rfl:=qae hn
  rw[qa8 (by omega),hC.u0 s hs]
  exact gw h hs (by omega) (by omega) (.inl ⟨rfl,rfl⟩) rfl λg hg=>by simp[half,hg]
 ·obtain rfl:=qae hn
  rw[qa8 (by omega),hC.d0 s hs]
  exact gw h hs (by omega) (by omega) (.inr ⟨rfl,rfl⟩) rfl λg hg=>by simp[half,hg]
 ·split at hn
  next h1=>
   obtain rfl:=qae hn
   rw[qa8 (by omega),hC.v s h1,GA_q (by omega),GA_q (by omega),half3,half1 rfl,h.nt s h1,h.nx s h1,h.ny s h1]
   simp only[qam,if_false]
   show _=if b s then cG (ofM (1,Int.ofNat s+1)) _ else _
   have hex:=je (f:=f s) (h.lt s hs)
   cases b s with
   |true=>
    simp only[if_true]
    rw[Pm_V hex]
   |false=>
    simp only[qam,if_false]
    rw[Pm_fwd hex]
  ·cases hn
 ·obtain rfl:=qae hn
  rw[qbW (by omega),hC.u0 s hs]
  exact gw h hs (by omega) (by omega) (.inl ⟨rfl,rfl⟩) rfl λg hg=>by simp[half,hg]
 ·obtain rfl:=qae hn
  rw[qa8 (by omega),hC.d1 s hs]
  exact gw h hs (by omega) (by omega) (.inr ⟨rfl,rfl⟩) rfl λg hg=>by simp[half,hg]
 ·cases hn
 ·obtain rfl:=qae hn
  rw[qa8 (by omega),hC.u2 s hs]
  exact gw h hs (by omega) (by omega) (.inl ⟨rfl,rfl⟩) rfl λg hg=>by simp[half,hg]
 ·obtain rfl:=qae hn
  rw[qbW (by omega),hC.d1 s hs]
  exact gw h hs (by omega) (by omega) (.inr ⟨rfl,rfl⟩) rfl λg hg=>by simp[half,hg]
 ·split at hn
  next h1=>
   obtain rfl:=qae hn
   obtain⟨u,rfl⟩ : ∃u,s=u+1:=⟨s - 1,by omega⟩
   rw[show u+1 - 1=u by omega,qbW (by omega),hC.v u hs,GA_q (by omega),GA_q (by omega),half3,half1 rfl,h.nt u hs,h.nx u hs,h.ny u hs]
   simp only[qam,if_false]
   show _=if b u then cG (ofM (1,Int.ofNat (u+1))) _ else _
   have hex:=je (f:=f u) (h.lt u (by omega))
   cases b u with
   |true=>
    simp only[if_true]
    rw[←Pm_V hex,←iV (by simp[ofM]) (by simp[ofM]) (by exact hex),show Int.ofNat (u+1)=Int.ofNat u+1 from rfl,ofM_twice,id_thenM (by exact hex)]
   |false=>
    simp only[qam,if_false]
    rw[Pm_fwd hex]
  ·cases hn
 ·obtain rfl:=qae hn
  rw[qbW (by omega),hC.u2 s hs]
  exact gw h hs (by omega) (by omega) (.inl ⟨rfl,rfl⟩) rfl λg hg=>by simp[half,hg]
 ·obtain rfl:=qae hn
  rw[qbW (by omega),hC.d0 s hs]
  exact gw h hs (by omega) (by omega) (.inr ⟨rfl,rfl⟩) rfl λg hg=>by simp[half,hg]
end
end St
namespace St
def evn(m:Mv):Prop:=(m.2.1+m.2.2)%2=0
def qz{a b:Mv}(hb:b.1<8)(ha:evn a)(hb':evn b):evn (cG a b):=by
 obtain⟨at',ax,ay⟩:=a
 obtain⟨bt,bx,by'⟩:=b
 unfold evn cG at *
 simp only at *
 rcases t8 hb with rfl|rfl|rfl|rfl|rfl|rfl|rfl|rfl<;>simp only[mA,mB,mC,mD]<;>omega
def evn_of(k:Nat)(c:Int):evn (ofM (k,c)):=by
 unfold evn ofM
 split<;>simp only<;>omega
section
variable {w:Nat} {l:TC} {f t:TB} {b:Ty} {x y:Nat->Int}
def ex_evn{g t s:Nat}{x y:Int}(ht:t<8)(h:evn (Pm t s x y)):evn (Pm (ex g t) s x y):=by
 unfold ex
 split
 ·rw[←Pm_D ht]
  exact qz ht (evn_of _ _) h
 ·split
  ·rw[←Pm_U ht]
   exact qz ht (evn_of _ _) h
  ·exact h
def Rib.evn(h:Rib w f b t x y):∀s,s<w->evn (Pm (t s) s (x s) (y s)):=by
 intro s
 induction s with
 |zero=>
  intro _
  rw[h.t0,h.x0,h.y0,Pm_id]
  rfl
 |succ s ih=>
  intro hs
  have ht:=h.lt s (by omega)
  have h1:=ex_evn (g:=f s) ht (ih (by omega))
  rw[h.nt s hs,h.nx s hs,h.ny s hs]
  cases b s with
  |true=>
   simp only[if_true]
   rw[←Pm_V (je ht)]
   exact qz (je ht) (evn_of _ _) h1
  |false=>
   simp only[qam,if_false]
   rw[Pm_fwd (je ht)]
   exact h1
def mA_rng(t:Nat):-1<=mA t/\mA t<=1:=by unfold mA;split<;>omega
def mC_rng(t:Nat):-1<=mC t/\mC t<=1:=by unfold mC;split<;>omega
def Rib.rng(h:Rib w f b t x y):∀s,s<w->(-(s:Int)<=x s/\x s<=s)/\-(s:Int)<=y s/\y s<=s:=by
 intro s
 induction s with
 |zero=>
  intro _
  rw[h.x0,h.y0]
  simp
 |succ s ih=>
  intro hs
  have h1:=ih (by omega)
  have h2:=mA_rng (ex (f s) (t s))
  have h3:=mC_rng (ex (f s) (t s))
  rw[h.nx s hs,h.ny s hs]
  split<;>omega
def Pm_ok{t s:Nat}{x y:Int}{n:Int}(ht:t<8)(hx:(-n<=x/\x<=n)/\-n<=y/\y<=n)(hs:(s:Int)<=n)(he:evn (Pm t s x y)):okM (2*n+1) (Pm t s x y):=by
 unfold okM
 refine⟨ht,?_⟩
 unfold evn at he
 have hd1:dX t=0∨dX t=1:=by unfold dX;split<;>simp
 have hd2:dY t=0∨dY t=1:=by unfold dY;split<;>simp
 refine⟨?_,?_,?_,?_,he⟩<;>unfold Pm<;>simp only<;>rcases t8 ht with rfl|rfl|rfl|rfl|rfl|rfl|rfl|rfl<;>simp only[mA,mC]<;>omega
def GA_ok(h:Rib w f b t x y)(hw:w<=60){c:Nat}(hc:c / 4<w):okM 121 (GA f t x y c):=by
 have ht:=h.lt _ hc
 have hr:=h.rng _ hc
 have he:=h.evn _ hc
 have hx:(-(60:Int)<=x (c / 4)/\x (c / 4)<=60)/\-(60:Int)<=y (c / 4)/\y (c / 4)<=60:=by omega
 unfold GA
 split
 ·exact Pm_ok (n:=60) (je ht) hx (by omega) (ex_evn ht he)
 ·exact Pm_ok (n:=60) ht hx (by omega) he
def jz(g:Nat):Mv:=if g=1 then(7,0,0)else(0,0,0)
def ru(g:Nat):okM 0 (jz g):=by
 unfold jz okM
 split<;>simp
def rt(g:Nat):(jz g).1<8:=(ru g).1
def tC(g:Nat):cG (jz g) (jz g)=idM:=by
 unfold jz
 split<;>simp[cG,mulT,mA,mB,mC,mD,idM]
def GA_0(h:Rib w f b t x y):GA f t x y 0=jz (f 0):=by
 unfold GA jz
 simp only[Nat.zero_div,Nat.zero_mod]
 rw[h.t0,h.x0,h.y0]
 by_cases h1:f 0=1
 ·rw[h1]
  simp[half,ex,mulT,Pm,dX,dY,mA,mB,mC,mD]
 ·by_cases h2:f 0=2
  ·rw[h2]
   simp[half,Pm,dX,dY,mA,mB,mC,mD]
  ·simp[half,h1,h2,Pm,dX,dY,mA,mB,mC,mD]
def GR(f t:TB)(x y:Nat->Int)(c:Nat):Mv:=cG (GA f t x y c) (jz (f 0))
def GR_0(h:Rib w f b t x y):GR f t x y 0=idM:=by
 unfold GR
 rw[GA_0 h,tC]
def GR_ok(h:Rib w f b t x y)(hw:w<=60){c:Nat}(hc:c<4*w*1):okM 400 (GR f t x y c):=
 hQ (qY (GA_ok h hw (by omega)) (ru _)) (by omega)
def GR_cons(h:Rib w f b t x y)(hw:1<=w/\w<=60)(hC:CrOf w l f b):pS w 1 l (GR f t x y):=by
 intro c e n hc he hn
 have h1:=cons h hw hC c e n hc he hn
 unfold GR
 rw[h1]
 unfold acM
 split
 ·rw[iV (ofM_lt _) (GA_lt h (by omega)) (rt _)]
 ·rfl
def GR_root(h:Rib w f b t x y){c:Nat}(hc:c / 4<w):cG (GR f t x y c) (jz (f 0))=GA f t x y c:=by
 unfold GR
 rw[iV (GA_lt h hc) (rt _) (rt _),tC,thenM_id (GA_lt h hc)]
def imC(f t:TB)(x y:Nat->Int)(c:Nat):Cl:=(x (c / 4),y (c / 4),qT (if half (f (c / 4)) (c%4)then ex (f (c / 4)) (t (c / 4))else t (c / 4)) (c%4))
def im_eq(h:Rib w f b t x y):imL w 1 (GR f t x y) (jz (f 0))=(List.range (4*w*1)).map (imC f t x y):=by
 unfold imL
 refine qbD λc hc=>?_
 have hc:=qaD.1 hc
 have hlt:c / 4<w:=by omega
 rw[GR_root h hlt]
 have e:clN w c=(Int.ofNat (c / 4),0,c%4):=by
  have:=clS (w:=w) (s:=c / 4) (q:=c%4) hlt (qbz _ (by omega))
  rwa [show 4*(c / 4)+c%4=c by omega]at this
 rw[e]
 unfold GA imC
 have ht:=h.lt _ hlt
 rw[Pm_cell]
 split
 ·exact je ht
 ·exact ht
end
end St
end Go.Am
end

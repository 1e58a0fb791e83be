/-
  PART 6 OF THE PROOF (no conditions).
-/
import Derived.Test.YteapjkmnfbpidaaGreatDoorST5
set_option linter.unusedSectionVars false
set_option linter.unusedSimpArgs false
set_option linter.unusedVariables false
set_option linter.constructorNameAsVariable false
set_option linter.defProp false
noncomputable section
set_option maxRecDepth 100000
set_option maxHeartbeats 16000000
namespace Go.Am
open Sx Go.Proofs
instance val0 : Val := ⟨λ_ => 0⟩
instance kno0:Kno:=KnoC cc neuN
def mixed:cc.P.follows .mixedOrders=true:=by kernel_rfl
def si(g:Nat)(vs:Tl)(h:cc.G g=some vs):vs.all gfl=true:=by
 unfold cc at h
 simp only at h
 split at h<;>first|(cases h;done)|(obtain rfl:=qan h;kernel_rfl)
def tB:DrOk cc drN:=drOf_ok neuN_ok (λ_ _ _ _ _ (h:_/\_)=>h.1)
abbrev Ent(k:Nat)(g:FB):Prop:=rQ cc aa ab k g
abbrev Cok(c:ac):Prop:=CallBOk cc aa ab c
def uv(f:TJ)(sg:Sig)(ls rs:TB)(H':Ts)(hs:aa f=some sg)(hp:sg.plain=true)(hc:aW cc aa f ls [] rs H'):∀H,aW cc aa f ls H rs H:=ct_of mixed si hs hp hc
def oz{k:Nat}{F:(R HT:Type)->Alg R HT->TB->HT->(TB->HT->R)->R}{fn:Fn1}(h2:F=λR HT A ls h K=>af A (xc k) aa drN fn ls h K)(h3:FnIs (xc k) aa k fn){c:ac}(hc:Cok c){l:List (Nat×FB)}(hl:∀p∈l,Ent p.1 p.2):Ent k (F RT HTr (BA aa ab (tblF l c))):=by
 intro ls h K w hls hk
 rw[h2]at hk
 obtain⟨rs,h',a1,_,a3⟩:=oR (BA_ok (w:=w) (tblF_ok hc hl)) tB h3 hls hk
 exact⟨rs,h',a1,a3⟩
def aN:∀p∈([]:List (Nat×FB)),Ent p.1 p.2:=λ_ h=>by cases h
def aC{k:Nat}{g:FB}{l:List (Nat×FB)}(h:Ent k g)(t:∀p∈l,Ent p.1 p.2):∀p∈(k,g) :: l,Ent p.1 p.2:=λp hp=>by
 rcases qap.1 hp with rfl|hp
 ·exact h
 ·exact t p hp
def am{k:Nat}{g:FB}{sg:Sig}(h:Ent k g)(h4:aa k=some sg)(h5:sg.plain=true):Ent k (memo g):=memo_ok uv h h4 h5
abbrev o_k(k:Nat)(w:ac->FB):Prop:=∀{c:ac},Cok c->Ent k (w c)
def w15(c:ac):FB:=memo (f15 (BA aa ab (tblF [] c)))
def ok15:o_k 15 w15:=λhc=>am (oz e15 i15 hc aN) rfl (by kernel_rfl)
def w5(c:ac):FB:=f5 (BA aa ab (tblF [(15,w15 c)] c))
def ok5:o_k 5 w5:=λhc=>oz e5 i5 hc (aC (ok15 hc) aN)
def w53(c:ac):FB:=memo (f53 (BA aa ab (tblF [] c)))
def ok53:o_k 53 w53:=λhc=>am (oz e53 i53 hc aN) rfl (by kernel_rfl)
def w129(c:ac):FB:=f129 (BA aa ab (tblF [] c))
def ok129:o_k 129 w129:=λhc=>oz e129 i129 hc aN
def w95(c:ac):FB:=f95 (BA aa ab (tblF [(129,w129 c)] c))
def ok95:o_k 95 w95:=λhc=>oz e95 i95 hc (aC (ok129 hc) aN)
def w56(c:ac):FB:=memo (f56 (BA aa ab (tblF [] c)))
def ok56:o_k 56 w56:=λhc=>am (oz e56 i56 hc aN) rfl (by kernel_rfl)
def w30(c:ac):FB:=memo (f30 (BA aa ab (tblF [(56,w56 c)] c)))
def ok30:o_k 30 w30:=λhc=>am (oz e30 i30 hc (aC (ok56 hc) aN)) rfl (by kernel_rfl)
def w106(c:ac):FB:=memo (f106 (BA aa ab (tblF [] c)))
def ok106:o_k 106 w106:=λhc=>am (oz e106 i106 hc aN) rfl (by kernel_rfl)
def w107(c:ac):FB:=memo (f107 (BA aa ab (tblF [] c)))
def ok107:o_k 107 w107:=λhc=>am (oz e107 i107 hc aN) rfl (by kernel_rfl)
def w77(c:ac):FB:=memo (f77 (BA aa ab (tblF [(53,w53 c),(106,w106 c),(107,w107 c)] c)))
def ok77:o_k 77 w77:=λhc=>am (oz e77 i77 hc (aC (ok53 hc) (aC (ok106 hc) (aC (ok107 hc) aN)))) rfl (by kernel_rfl)
def w113(c:ac):FB:=memo (f113 (BA aa ab (tblF [(53,w53 c),(56,w56 c)] c)))
def ok113:o_k 113 w113:=λhc=>am (oz e113 i113 hc (aC (ok53 hc) (aC (ok56 hc) aN))) rfl (by kernel_rfl)
def w81(c:ac):FB:=memo (f81 (BA aa ab (tblF [(30,w30 c),(77,w77 c),(113,w113 c)] c)))
def ok81:o_k 81 w81:=λhc=>am (oz e81 i81 hc (aC (ok30 hc) (aC (ok77 hc) (aC (ok113 hc) aN)))) rfl (by kernel_rfl)
def w98(c:ac):FB:=memo (f98 (BA aa ab (tblF [(81,w81 c)] c)))
def ok98:o_k 98 w98:=λhc=>am (oz e98 i98 hc (aC (ok81 hc) aN)) rfl (by kernel_rfl)
def w99(c:ac):FB:=memo (f99 (BA aa ab (tblF [] c)))
def ok99:o_k 99 w99:=λhc=>am (oz e99 i99 hc aN) rfl (by kernel_rfl)
def w100(c:ac):FB:=memo (f100 (BA aa ab (tblF [] c)))
def ok100:o_k 100 w100:=λhc=>am (oz e100 i100 hc aN) rfl (by kernel_rfl)
def w74(c:ac):FB:=f74 (BA aa ab (tblF [(53,w53 c),(95,w95 c),(98,w98 c),(99,w99 c),(100,w100 c)] c))
def ok74:o_k 74 w74:=λhc=>oz e74 i74 hc (aC (ok53 hc) (aC (ok95 hc) (aC (ok98 hc) (aC (ok99 hc) (aC (ok100 hc) aN)))))
def w101(c:ac):FB:=memo (f101 (BA aa ab (tblF [] c)))
def ok101:o_k 101 w101:=λhc=>am (oz e101 i101 hc aN) rfl (by kernel_rfl)
def w75(c:ac):FB:=memo (f75 (BA aa ab (tblF [(101,w101 c)] c)))
def ok75:o_k 75 w75:=λhc=>am (oz e75 i75 hc (aC (ok101 hc) aN)) rfl (by kernel_rfl)
def w54(c:ac):FB:=memo (f54 (BA aa ab (tblF [(53,w53 c)] c)))
def ok54:o_k 54 w54:=λhc=>am (oz e54 i54 hc (aC (ok53 hc) aN)) rfl (by kernel_rfl)
def w102(c:ac):FB:=f102 (BA aa ab (tblF [] c))
def ok102:o_k 102 w102:=λhc=>oz e102 i102 hc aN
def w76(c:ac):FB:=f76 (BA aa ab (tblF [(54,w54 c),(81,w81 c),(102,w102 c)] c))
def ok76:o_k 76 w76:=λhc=>oz e76 i76 hc (aC (ok54 hc) (aC (ok81 hc) (aC (ok102 hc) aN)))
def w108(c:ac):FB:=memo (f108 (BA aa ab (tblF [] c)))
def ok108:o_k 108 w108:=λhc=>am (oz e108 i108 hc aN) rfl (by kernel_rfl)
def w109(c:ac):FB:=memo (f109 (BA aa ab (tblF [(75,w75 c)] c)))
def ok109:o_k 109 w109:=λhc=>am (oz e109 i109 hc (aC (ok75 hc) aN)) rfl (by kernel_rfl)
def w110(c:ac):FB:=memo (f110 (BA aa ab (tblF [] c)))
def ok110:o_k 110 w110:=λhc=>am (oz e110 i110 hc aN) rfl (by kernel_rfl)
def w111(c:ac):FB:=memo (f111 (BA aa ab (tblF [(108,w108 c)] c)))
def ok111:o_k 111 w111:=λhc=>am (oz e111 i111 hc (aC (ok108 hc) aN)) rfl (by kernel_rfl)
def w78(c:ac):FB:=memo (f78 (BA aa ab (tblF [(75,w75 c),(108,w108 c),(109,w109 c),(110,w110 c),(111,w111 c)] c)))
def ok78:o_k 78 w78:=λhc=>am (oz e78 i78 hc (aC (ok75 hc) (aC (ok108 hc) (aC (ok109 hc) (aC (ok110 hc) (aC (ok111 hc) aN)))))) rfl (by kernel_rfl)
def w133(c:ac):FB:=memo (f133 (BA aa ab (tblF [] c)))
def ok133:o_k 133 w133:=λhc=>am (oz e133 i133 hc aN) rfl (by kernel_rfl)
def w166(c:ac):FB:=memo (f166 (BA aa ab (tblF [] c)))
def ok166:o_k 166 w166:=λhc=>am (oz e166 i166 hc aN) rfl (by kernel_rfl)
def w134(c:ac):FB:=memo (f134 (BA aa ab (tblF [(75,w75 c),(108,w108 c),(166,w166 c)] c)))
def ok134:o_k 134 w134:=λhc=>am (oz e134 i134 hc (aC (ok75 hc) (aC (ok108 hc) (aC (ok166 hc) aN)))) rfl (by kernel_rfl)
def w112(c:ac):FB:=memo (f112 (BA aa ab (tblF [(133,w133 c),(134,w134 c)] c)))
def ok112:o_k 112 w112:=λhc=>am (oz e112 i112 hc (aC (ok133 hc) (aC (ok134 hc) aN))) rfl (by kernel_rfl)
def w79(c:ac):FB:=memo (f79 (BA aa ab (tblF [(56,w56 c),(75,w75 c),(112,w112 c)] c)))
def ok79:o_k 79 w79:=λhc=>am (oz e79 i79 hc (aC (ok56 hc) (aC (ok75 hc) (aC (ok112 hc) aN)))) rfl (by kernel_rfl)
def w52(c:ac):FB:=f52 (BA aa ab (tblF [(74,w74 c),(75,w75 c),(76,w76 c),(77,w77 c),(78,w78 c),(79,w79 c)] c))
def ok52:o_k 52 w52:=λhc=>oz e52 i52 hc (aC (ok74 hc) (aC (ok75 hc) (aC (ok76 hc) (aC (ok77 hc) (aC (ok78 hc) (aC (ok79 hc) aN))))))
def w26(c:ac):FB:=f26 (BA aa ab (tblF [(52,w52 c)] c))
def ok26:o_k 26 w26:=λhc=>oz e26 i26 hc (aC (ok52 hc) aN)
def w57(c:ac):FB:=f57 (BA aa ab (tblF [] c))
def ok57:o_k 57 w57:=λhc=>oz e57 i57 hc aN
def w28(c:ac):FB:=f28 (BA aa ab (tblF [(57,w57 c)] c))
def ok28:o_k 28 w28:=λhc=>oz e28 i28 hc (aC (ok57 hc) aN)
def w72(c:ac):FB:=memo (f72 (BA aa ab (tblF [] c)))
def ok72:o_k 72 w72:=λhc=>am (oz e72 i72 hc aN) rfl (by kernel_rfl)
def w42(c:ac):FB:=memo (f42 (BA aa ab (tblF [(72,w72 c)] c)))
def ok42:o_k 42 w42:=λhc=>am (oz e42 i42 hc (aC (ok72 hc) aN)) rfl (by kernel_rfl)
def w64(c:ac):FB:=f64 (BA aa ab (tblF [(42,w42 c)] c))
def ok64:o_k 64 w64:=λhc=>oz e64 i64 hc (aC (ok42 hc) aN)
def w33(c:ac):FB:=memo (f33 (BA aa ab (tblF [(64,w64 c)] c)))
def ok33:o_k 33 w33:=λhc=>am (oz e33 i33 hc (aC (ok64 hc) aN)) rfl (by kernel_rfl)
def w27(c:ac):FB:=f27 (BA aa ab (tblF [(28,w28 c),(33,w33 c),(53,w53 c),(54,w54 c),(56,w56 c)] c))
def ok27:o_k 27 w27:=λhc=>oz e27 i27 hc (aC (ok28 hc) (aC (ok33 hc) (aC (ok53 hc) (aC (ok54 hc) (aC (ok56 hc) aN)))))
def w11(c:ac):FB:=f11 (BA aa ab (tblF [(26,w26 c),(27,w27 c),(28,w28 c),(30,w30 c)] c))
def ok11:o_k 11 w11:=λhc=>oz e11 i11 hc (aC (ok26 hc) (aC (ok27 hc) (aC (ok28 hc) (aC (ok30 hc) aN))))
def w58(c:ac):FB:=f58 (BA aa ab (tblF [(52,w52 c)] c))
def ok58:o_k 58 w58:=λhc=>oz e58 i58 hc (aC (ok52 hc) aN)
def w80(c:ac):FB:=f80 (BA aa ab (tblF [(33,w33 c)] c))
def ok80:o_k 80 w80:=λhc=>oz e80 i80 hc (aC (ok33 hc) aN)
def w167(c:ac):FB:=f167 (BA aa ab (tblF [] c))
def ok167:o_k 167 w167:=λhc=>oz e167 i167 hc aN
def w135(c:ac):FB:=f135 (BA aa ab (tblF [(167,w167 c)] c))
def ok135:o_k 135 w135:=λhc=>oz e135 i135 hc (aC (ok167 hc) aN)
def w114(c:ac):FB:=f114 (BA aa ab (tblF [(74,w74 c),(98,w98 c),(135,w135 c)] c))
def ok114:o_k 114 w114:=λhc=>oz e114 i114 hc (aC (ok74 hc) (aC (ok98 hc) (aC (ok135 hc) aN)))
def w82(c:ac):FB:=f82 (BA aa ab (tblF [(114,w114 c)] c))
def ok82:o_k 82 w82:=λhc=>oz e82 i82 hc (aC (ok114 hc) aN)
def w59(c:ac):FB:=f59 (BA aa ab (tblF [(30,w30 c),(77,w77 c),(79,w79 c),(80,w80 c),(81,w81 c),(82,w82 c)] c))
def ok59:o_k 59 w59:=λhc=>oz e59 i59 hc (aC (ok30 hc) (aC (ok77 hc) (aC (ok79 hc) (aC (ok80 hc) (aC (ok81 hc) (aC (ok82 hc) aN))))))
def w115(c:ac):FB:=f115 (BA aa ab (tblF [] c))
def ok115:o_k 115 w115:=λhc=>oz e115 i115 hc aN
def w83(c:ac):FB:=f83 (BA aa ab (tblF [(115,w115 c)] c))
def ok83:o_k 83 w83:=λhc=>oz e83 i83 hc (aC (ok115 hc) aN)
def w124(c:ac):FB:=memo (f124 (BA aa ab (tblF [] c)))
def ok124:o_k 124 w124:=λhc=>am (oz e124 i124 hc aN) rfl (by kernel_rfl)
def w84(c:ac):FB:=memo (f84 (BA aa ab (tblF [(124,w124 c)] c)))
def ok84:o_k 84 w84:=λhc=>am (oz e84 i84 hc (aC (ok124 hc) aN)) rfl (by kernel_rfl)
def w60(c:ac):FB:=f60 (BA aa ab (tblF [(83,w83 c),(84,w84 c)] c))
def ok60:o_k 60 w60:=λhc=>oz e60 i60 hc (aC (ok83 hc) (aC (ok84 hc) aN))
def w67(c:ac):FB:=f67 (BA aa ab (tblF [] c))
def ok67:o_k 67 w67:=λhc=>oz e67 i67 hc aN
def w68(c:ac):FB:=f68 (BA aa ab (tblF [] c))
def ok68:o_k 68 w68:=λhc=>oz e68 i68 hc aN
def w141(c:ac):FB:=f141 (BA aa ab (tblF [] c))
def ok141:o_k 141 w141:=λhc=>oz e141 i141 hc aN
def w125(c:ac):FB:=f125 (BA aa ab (tblF [(141,w141 c)] c))
def ok125:o_k 125 w125:=λhc=>oz e125 i125 hc (aC (ok141 hc) aN)
def w85(c:ac):FB:=f85 (BA aa ab (tblF [(84,w84 c),(125,w125 c)] c))
def ok85:o_k 85 w85:=λhc=>oz e85 i85 hc (aC (ok84 hc) (aC (ok125 hc) aN))
def w149(c:ac):FB:=f149 (BA aa ab (tblF [] c))
def ok149:o_k 149 w149:=λhc=>oz e149 i149 hc aN
def w126(c:ac):FB:=f126 (BA aa ab (tblF [(149,w149 c)] c))
def ok126:o_k 126 w126:=λhc=>oz e126 i126 hc (aC (ok149 hc) aN)
def w87(c:ac):FB:=f87 (BA aa ab (tblF [(84,w84 c),(126,w126 c)] c))
def ok87:o_k 87 w87:=λhc=>oz e87 i87 hc (aC (ok84 hc) (aC (ok126 hc) aN))
def w163(c:ac):FB:=memo (f163 (BA aa ab (tblF [(72,w72 c)] c)))
def rn{c:ac}(hc:Cok c):Ent 163 (w163 c):=am (oz e163 i163 hc (aC (ok72 hc) aN)) rfl (by kernel_rfl)
def w157(c:ac):FB:=f157 (BA aa ab (tblF [(163,w163 c)] c))
def ok157:o_k 157 w157:=λhc=>oz e157 i157 hc (aC (rn hc) aN)
def w176(c:ac):FB:=f176 (BA aa ab (tblF [(163,w163 c)] c))
def ok176:o_k 176 w176:=λhc=>oz e176 i176 hc (aC (rn hc) aN)
def w158(c:ac):FB:=f158 (BA aa ab (tblF [(176,w176 c)] c))
def ok158:o_k 158 w158:=λhc=>oz e158 i158 hc (aC (ok176 hc) aN)
def w159(c:ac):FB:=f159 (BA aa ab (tblF [] c))
def ok159:o_k 159 w159:=λhc=>oz e159 i159 hc aN
def w181(c:ac):FB:=f181 (BA aa ab (tblF [(163,w163 c)] c))
def ok181:o_k 181 w181:=λhc=>oz e181 i181 hc (aC (rn hc) aN)
def w178(c:ac):FB:=f178 (BA aa ab (tblF [(181,w181 c)] c))
def ok178:o_k 178 w178:=λhc=>oz e178 i178 hc (aC (ok181 hc) aN)
def w177(c:ac):FB:=f177 (BA aa ab (tblF [(178,w178 c)] c))
def ok177:o_k 177 w177:=λhc=>oz e177 i177 hc (aC (ok178 hc) aN)
def w160(c:ac):FB:=f160 (BA aa ab (tblF [(177,w177 c),(178,w178 c)] c))
def ok160:o_k 160 w160:=λhc=>oz e160 i160 hc (aC (ok177 hc) (aC (ok178 hc) aN))
def w161(c:ac):FB:=f161 (BA aa ab (tblF [] c))
def ok161:o_k 161 w161:=λhc=>oz e161 i161 hc aN
def w162(c:ac):FB:=f162 (BA aa ab (tblF [(163,w163 c)] c))
def ok162:o_k 162 w162:=λhc=>oz e162 i162 hc (aC (rn hc) aN)
def w164(c:ac):FB:=f164 (BA aa ab (tblF [(163,w163 c)] c))
def ok164:o_k 164 w164:=λhc=>oz e164 i164 hc (aC (rn hc) aN)
def w165(c:ac):FB:=f165 (BA aa ab (tblF [(163,w163 c)] c))
def ok165:o_k 165 w165:=λhc=>oz e165 i165 hc (aC (rn hc) aN)
def w128(c:ac):FB:=f128 (BA aa ab (tblF [(157,w157 c),(158,w158 c),(159,w159 c),(160,w160 c),(161,w161 c),(162,w162 c),(163,w163 c),(164,w164 c),(165,w165 c)] c))
def ok128:o_k 128 w128:=λhc=>oz e128 i128 hc (aC (ok157 hc) (aC (ok158 hc) (aC (ok159 hc) (aC (ok160 hc) (aC (ok161 hc) (aC (ok162 hc) (aC (rn hc) (aC (ok164 hc) (aC (ok165 hc) aN)))))))))
def w90(c:ac):FB:=f90 (BA aa ab (tblF [(84,w84 c),(128,w128 c)] c))
def ok90:o_k 90 w90:=λhc=>oz e90 i90 hc (aC (ok84 hc) (aC (ok128 hc) aN))
def w91(c:ac):FB:=f91 (BA aa ab (tblF [] c))
def ok91:o_k 91 w91:=λhc=>oz e91 i91 hc aN
def w92(c:ac):FB:=f92 (BA aa ab (tblF [] c))
def ok92:o_k 92 w92:=λhc=>oz e92 i92 hc aN
def w93(c:ac):FB:=f93 (BA aa ab (tblF [] c))
def ok93:o_k 93 w93:=λhc=>oz e93 i93 hc aN
def w94(c:ac):FB:=f94 (BA aa ab (tblF [] c))
def ok94:o_k 94 w94:=λhc=>oz e94 i94 hc aN
def w63(c:ac):FB:=f63 (BA aa ab (tblF [(67,w67 c),(68,w68 c),(85,w85 c),(87,w87 c),(90,w90 c),(91,w91 c),(92,w92 c),(93,w93 c),(94,w94 c)] c))
def ok63:o_k 63 w63:=λhc=>oz e63 i63 hc (aC (ok67 hc) (aC (ok68 hc) (aC (ok85 hc) (aC (ok87 hc) (aC (ok90 hc) (aC (ok91 hc) (aC (ok92 hc) (aC (ok93 hc) (aC (ok94 hc) aN)))))))))
def w31(c:ac):FB:=f31 (BA aa ab (tblF [(11,w11 c),(26,w26 c),(54,w54 c),(58,w58 c),(59,w59 c),(60,w60 c),(63,w63 c)] c))
def ok31:o_k 31 w31:=λhc=>oz e31 i31 hc (aC (ok11 hc) (aC (ok26 hc) (aC (ok54 hc) (aC (ok58 hc) (aC (ok59 hc) (aC (ok60 hc) (aC (ok63 hc) aN)))))))
def w32(c:ac):FB:=memo (f32 (BA aa ab (tblF [(30,w30 c),(56,w56 c)] c)))
def ok32:o_k 32 w32:=λhc=>am (oz e32 i32 hc (aC (ok30 hc) (aC (ok56 hc) aN))) rfl (by kernel_rfl)
def w12(c:ac):FB:=f12 (BA aa ab (tblF [(31,w31 c),(32,w32 c),(33,w33 c)] c))
def ok12:o_k 12 w12:=λhc=>oz e12 i12 hc (aC (ok31 hc) (aC (ok32 hc) (aC (ok33 hc) aN)))
def w16(c:ac):FB:=memo (f16 (BA aa ab (tblF [] c)))
def ok16:o_k 16 w16:=λhc=>am (oz e16 i16 hc aN) rfl (by kernel_rfl)
def w6(c:ac):FB:=memo (f6 (BA aa ab (tblF [(15,w15 c),(16,w16 c)] c)))
def ok6:o_k 6 w6:=λhc=>am (oz e6 i6 hc (aC (ok15 hc) (aC (ok16 hc) aN))) rfl (by kernel_rfl)
def w7(c:ac):FB:=memo (f7 (BA aa ab (tblF [(6,w6 c)] c)))
def ok7:o_k 7 w7:=λhc=>am (oz e7 i7 hc (aC (ok6 hc) aN)) rfl (by kernel_rfl)
def w8(c:ac):FB:=f8 (BA aa ab (tblF [] c))
def ok8:o_k 8 w8:=λhc=>oz e8 i8 hc aN
def w43(c:ac):FB:=memo (f43 (BA aa ab (tblF [(15,w15 c)] c)))
def ok43:o_k 43 w43:=λhc=>am (oz e43 i43 hc (aC (ok15 hc) aN)) rfl (by kernel_rfl)
def w17(c:ac):FB:=f17 (BA aa ab (tblF [(6,w6 c),(43,w43 c)] c))
def ok17:o_k 17 w17:=λhc=>oz e17 i17 hc (aC (ok6 hc) (aC (ok43 hc) aN))
def w44(c:ac):FB:=memo (f44 (BA aa ab (tblF [] c)))
def ok44:o_k 44 w44:=λhc=>am (oz e44 i44 hc aN) rfl (by kernel_rfl)
def w45(c:ac):FB:=memo (f45 (BA aa ab (tblF [] c)))
def ok45:o_k 45 w45:=λhc=>am (oz e45 i45 hc aN) rfl (by kernel_rfl)
def w18(c:ac):FB:=memo (f18 (BA aa ab (tblF [(44,w44 c),(45,w45 c)] c)))
def ok18:o_k 18 w18:=λhc=>am (oz e18 i18 hc (aC (ok44 hc) (aC (ok45 hc) aN))) rfl (by kernel_rfl)
def w46(c:ac):FB:=memo (f46 (BA aa ab (tblF [] c)))
def ok46:o_k 46 w46:=λhc=>am (oz e46 i46 hc aN) rfl (by kernel_rfl)
def w19(c:ac):FB:=memo (f19 (BA aa ab (tblF [(46,w46 c)] c)))
def ok19:o_k 19 w19:=λhc=>am (oz e19 i19 hc (aC (ok46 hc) aN)) rfl (by kernel_rfl)
def w9(c:ac):FB:=f9 (BA aa ab (tblF [(6,w6 c),(15,w15 c),(17,w17 c),(18,w18 c),(19,w19 c)] c))
def ok9:o_k 9 w9:=λhc=>oz e9 i9 hc (aC (ok6 hc) (aC (ok15 hc) (aC (ok17 hc) (aC (ok18 hc) (aC (ok19 hc) aN)))))
def w48(c:ac):FB:=memo (f48 (BA aa ab (tblF [(45,w45 c)] c)))
def ok48:o_k 48 w48:=λhc=>am (oz e48 i48 hc (aC (ok45 hc) aN)) rfl (by kernel_rfl)
def w73(c:ac):FB:=memo (f73 (BA aa ab (tblF [] c)))
def ok73:o_k 73 w73:=λhc=>am (oz e73 i73 hc aN) rfl (by kernel_rfl)
def w49(c:ac):FB:=memo (f49 (BA aa ab (tblF [(73,w73 c)] c)))
def ok49:o_k 49 w49:=λhc=>am (oz e49 i49 hc (aC (ok73 hc) aN)) rfl (by kernel_rfl)
def w21(c:ac):FB:=memo (f21 (BA aa ab (tblF [(44,w44 c),(48,w48 c),(49,w49 c)] c)))
def ok21:o_k 21 w21:=λhc=>am (oz e21 i21 hc (aC (ok44 hc) (aC (ok48 hc) (aC (ok49 hc) aN)))) rfl (by kernel_rfl)
def w34(c:ac):FB:=memo (f34 (BA aa ab (tblF [] c)))
def ok34:o_k 34 w34:=λhc=>am (oz e34 i34 hc aN) rfl (by kernel_rfl)
def w35(c:ac):FB:=memo (f35 (BA aa ab (tblF [(49,w49 c)] c)))
def ok35:o_k 35 w35:=λhc=>am (oz e35 i35 hc (aC (ok49 hc) aN)) rfl (by kernel_rfl)
def w65(c:ac):FB:=memo (f65 (BA aa ab (tblF [] c)))
def ok65:o_k 65 w65:=λhc=>am (oz e65 i65 hc aN) rfl (by kernel_rfl)
def w36(c:ac):FB:=f36 (BA aa ab (tblF [(65,w65 c)] c))
def ok36:o_k 36 w36:=λhc=>oz e36 i36 hc (aC (ok65 hc) aN)
def w66(c:ac):FB:=memo (f66 (BA aa ab (tblF [(19,w19 c)] c)))
def ok66:o_k 66 w66:=λhc=>am (oz e66 i66 hc (aC (ok19 hc) aN)) rfl (by kernel_rfl)
def w37(c:ac):FB:=f37 (BA aa ab (tblF [(6,w6 c),(9,w9 c),(15,w15 c),(17,w17 c),(21,w21 c),(66,w66 c)] c))
def ok37:o_k 37 w37:=λhc=>oz e37 i37 hc (aC (ok6 hc) (aC (ok9 hc) (aC (ok15 hc) (aC (ok17 hc) (aC (ok21 hc) (aC (ok66 hc) aN))))))
def w13(c:ac):FB:=f13 (BA aa ab (tblF [(7,w7 c),(8,w8 c),(9,w9 c),(18,w18 c),(21,w21 c),(34,w34 c),(35,w35 c),(36,w36 c),(37,w37 c)] c))
def ok13:o_k 13 w13:=λhc=>oz e13 i13 hc (aC (ok7 hc) (aC (ok8 hc) (aC (ok9 hc) (aC (ok18 hc) (aC (ok21 hc) (aC (ok34 hc) (aC (ok35 hc) (aC (ok36 hc) (aC (ok37 hc) aN)))))))))
def w38(c:ac):FB:=f38 (BA aa ab (tblF [(67,w67 c),(68,w68 c)] c))
def ok38:o_k 38 w38:=λhc=>oz e38 i38 hc (aC (ok67 hc) (aC (ok68 hc) aN))
def w39(c:ac):FB:=f39 (BA aa ab (tblF [] c))
def ok39:o_k 39 w39:=λhc=>oz e39 i39 hc aN
def w71(c:ac):FB:=f71 (BA aa ab (tblF [] c))
def ok71:o_k 71 w71:=λhc=>oz e71 i71 hc aN
def w40(c:ac):FB:=f40 (BA aa ab (tblF [(71,w71 c)] c))
def ok40:o_k 40 w40:=λhc=>oz e40 i40 hc (aC (ok71 hc) aN)
def w14(c:ac):FB:=f14 (BA aa ab (tblF [(38,w38 c),(39,w39 c),(40,w40 c),(42,w42 c)] c))
def ok14:o_k 14 w14:=λhc=>oz e14 i14 hc (aC (ok38 hc) (aC (ok39 hc) (aC (ok40 hc) (aC (ok42 hc) aN))))
def w4(c:ac):FB:=memo (f4 (BA aa ab (tblF [(5,w5 c),(12,w12 c),(13,w13 c),(14,w14 c)] c)))
def ok4:o_k 4 w4:=λhc=>am (oz e4 i4 hc (aC (ok5 hc) (aC (ok12 hc) (aC (ok13 hc) (aC (ok14 hc) aN))))) rfl (by kernel_rfl)
def w47(c:ac):FB:=memo (f47 (BA aa ab (tblF [] c)))
def ok47:o_k 47 w47:=λhc=>am (oz e47 i47 hc aN) rfl (by kernel_rfl)
def w20(c:ac):FB:=f20 (BA aa ab (tblF [(47,w47 c)] c))
def ok20:o_k 20 w20:=λhc=>oz e20 i20 hc (aC (ok47 hc) aN)
def w50(c:ac):FB:=f50 (BA aa ab (tblF [] c))
def ok50:o_k 50 w50:=λhc=>oz e50 i50 hc aN
def w22(c:ac):FB:=f22 (BA aa ab (tblF [(6,w6 c),(15,w15 c),(16,w16 c),(21,w21 c),(50,w50 c)] c))
def ok22:o_k 22 w22:=λhc=>oz e22 i22 hc (aC (ok6 hc) (aC (ok15 hc) (aC (ok16 hc) (aC (ok21 hc) (aC (ok50 hc) aN)))))
def w51(c:ac):FB:=f51 (BA aa ab (tblF [] c))
def ok51:o_k 51 w51:=λhc=>oz e51 i51 hc aN
def w24(c:ac):FB:=f24 (BA aa ab (tblF [(51,w51 c)] c))
def ok24:o_k 24 w24:=λhc=>oz e24 i24 hc (aC (ok51 hc) aN)
def w23(c:ac):FB:=f23 (BA aa ab (tblF [(24,w24 c),(51,w51 c)] c))
def ok23:o_k 23 w23:=λhc=>oz e23 i23 hc (aC (ok24 hc) (aC (ok51 hc) aN))
def w25(c:ac):FB:=memo (f25 (BA aa ab (tblF [] c)))
def ok25:o_k 25 w25:=λhc=>am (oz e25 i25 hc aN) rfl (by kernel_rfl)
def w10(c:ac):FB:=f10 (BA aa ab (tblF [(9,w9 c),(15,w15 c),(16,w16 c),(17,w17 c),(20,w20 c),(21,w21 c),(22,w22 c),(23,w23 c),(24,w24 c),(25,w25 c)] c))
def ok10:o_k 10 w10:=λhc=>oz e10 i10 hc (aC (ok9 hc) (aC (ok15 hc) (aC (ok16 hc) (aC (ok17 hc) (aC (ok20 hc) (aC (ok21 hc) (aC (ok22 hc) (aC (ok23 hc) (aC (ok24 hc) (aC (ok25 hc) aN))))))))))
def w3(c:ac):FB:=f3 (BA aa ab (tblF [(4,w4 c),(5,w5 c),(6,w6 c),(7,w7 c),(8,w8 c),(9,w9 c),(10,w10 c),(11,w11 c)] c))
def ok3:o_k 3 w3:=λhc=>oz e3 i3 hc (aC (ok4 hc) (aC (ok5 hc) (aC (ok6 hc) (aC (ok7 hc) (aC (ok8 hc) (aC (ok9 hc) (aC (ok10 hc) (aC (ok11 hc) aN))))))))
def w29(c:ac):FB:=f29 (BA aa ab (tblF [] c))
def ok29:o_k 29 w29:=λhc=>oz e29 i29 hc aN
def w41(c:ac):FB:=memo (f41 (BA aa ab (tblF [] c)))
def ok41:o_k 41 w41:=λhc=>am (oz e41 i41 hc aN) rfl (by kernel_rfl)
def w55(c:ac):FB:=f55 (BA aa ab (tblF [] c))
def ok55:o_k 55 w55:=λhc=>oz e55 i55 hc aN
def w62(c:ac):FB:=f62 (BA aa ab (tblF [] c))
def ok62:o_k 62 w62:=λhc=>oz e62 i62 hc aN
def w61(c:ac):FB:=memo (f61 (BA aa ab (tblF [(33,w33 c),(62,w62 c)] c)))
def ok61:o_k 61 w61:=λhc=>am (oz e61 i61 hc (aC (ok33 hc) (aC (ok62 hc) aN))) rfl (by kernel_rfl)
def w70(c:ac):FB:=f70 (BA aa ab (tblF [] c))
def ok70:o_k 70 w70:=λhc=>oz e70 i70 hc aN
def w69(c:ac):FB:=f69 (BA aa ab (tblF [(70,w70 c)] c))
def ok69:o_k 69 w69:=λhc=>oz e69 i69 hc (aC (ok70 hc) aN)
def w86(c:ac):FB:=f86 (BA aa ab (tblF [(42,w42 c)] c))
def ok86:o_k 86 w86:=λhc=>oz e86 i86 hc (aC (ok42 hc) aN)
def w127(c:ac):FB:=memo (f127 (BA aa ab (tblF [] c)))
def ok127:o_k 127 w127:=λhc=>am (oz e127 i127 hc aN) rfl (by kernel_rfl)
def w89(c:ac):FB:=memo (f89 (BA aa ab (tblF [(127,w127 c)] c)))
def ok89:o_k 89 w89:=λhc=>am (oz e89 i89 hc (aC (ok127 hc) aN)) rfl (by kernel_rfl)
def w88(c:ac):FB:=f88 (BA aa ab (tblF [(42,w42 c),(62,w62 c),(89,w89 c)] c))
def ok88:o_k 88 w88:=λhc=>oz e88 i88 hc (aC (ok42 hc) (aC (ok62 hc) (aC (ok89 hc) aN)))
def w97(c:ac):FB:=memo (f97 (BA aa ab (tblF [] c)))
def ok97:o_k 97 w97:=λhc=>am (oz e97 i97 hc aN) rfl (by kernel_rfl)
def w96(c:ac):FB:=memo (f96 (BA aa ab (tblF [(97,w97 c)] c)))
def ok96:o_k 96 w96:=λhc=>am (oz e96 i96 hc (aC (ok97 hc) aN)) rfl (by kernel_rfl)
def w130(c:ac):FB:=memo (f130 (BA aa ab (tblF [(53,w53 c),(98,w98 c),(107,w107 c)] c)))
def ok130:o_k 130 w130:=λhc=>am (oz e130 i130 hc (aC (ok53 hc) (aC (ok98 hc) (aC (ok107 hc) aN)))) rfl (by kernel_rfl)
def w132(c:ac):FB:=memo (f132 (BA aa ab (tblF [] c)))
def ok132:o_k 132 w132:=λhc=>am (oz e132 i132 hc aN) rfl (by kernel_rfl)
def w131(c:ac):FB:=memo (f131 (BA aa ab (tblF [(56,w56 c),(132,w132 c)] c)))
def ok131:o_k 131 w131:=λhc=>am (oz e131 i131 hc (aC (ok56 hc) (aC (ok132 hc) aN))) rfl (by kernel_rfl)
def w104(c:ac):FB:=memo (f104 (BA aa ab (tblF [(130,w130 c),(131,w131 c)] c)))
def ok104:o_k 104 w104:=λhc=>am (oz e104 i104 hc (aC (ok130 hc) (aC (ok131 hc) aN))) rfl (by kernel_rfl)
def w105(c:ac):FB:=memo (f105 (BA aa ab (tblF [(132,w132 c)] c)))
def ok105:o_k 105 w105:=λhc=>am (oz e105 i105 hc (aC (ok132 hc) aN)) rfl (by kernel_rfl)
def w103(c:ac):FB:=f103 (BA aa ab (tblF [(78,w78 c),(98,w98 c),(104,w104 c),(105,w105 c)] c))
def ok103:o_k 103 w103:=λhc=>oz e103 i103 hc (aC (ok78 hc) (aC (ok98 hc) (aC (ok104 hc) (aC (ok105 hc) aN))))
def w168(c:ac):FB:=memo (f168 (BA aa ab (tblF [(99,w99 c),(100,w100 c)] c)))
def ok168:o_k 168 w168:=λhc=>am (oz e168 i168 hc (aC (ok99 hc) (aC (ok100 hc) aN))) rfl (by kernel_rfl)
def y_of{κ:Nat}{g:ac->Tl->Nat->FB}{ct:ac->ac}{c:ac}(h0:∀vs l ls h K,vj (BA aa ab (ct c)) (xc 0) aa drN (ab κ) vs l ls h K=g c vs l ls h K)(hc:Cok (ct c)):YOk cc aa ab κ (g c):=by
 intro vs l ls h K w st pd xs e hy hk
 rw[←h0]at hk
 obtain⟨b,h',a1,a3⟩:=execY_ok (X:=xc 0) (BA_ok (w:=w) hc) tB (iy e) rfl rfl rfl rfl hy hk
 exact⟨b,h',a1,a3⟩
def tabW(c:ac):Tr FB:=(.node nf (.node nf (.node (w3 c) (.node (w7 c) (.node (w15 c) (.node (w31 c) (.node (w63 c) (.node (w127 c) .leaf .leaf) .leaf) (.node (w95 c) (.node (w159 c) .leaf .leaf) .leaf)) (.node (w47 c) (.node (w79 c) .leaf .leaf) (.node (w111 c) .leaf .leaf))) (.node (w23 c) (.node (w39 c) (.node (w71 c) (.node (w135 c) .leaf .leaf) .leaf) (.node (w103 c) (.node (w167 c) .leaf .leaf) .leaf)) (.node (w55 c) (.node (w87 c) .leaf .leaf) .leaf))) (.node (w11 c) (.node (w19 c) (.node (w35 c) (.node (w67 c) (.node (w131 c) .leaf .leaf) .leaf) (.node (w99 c) (.node (w163 c) .leaf .leaf) .leaf)) (.node (w51 c) (.node (w83 c) .leaf .leaf) (.node (w115 c) .leaf .leaf))) (.node (w27 c) (.node (w43 c) (.node (w75 c) .leaf .leaf) (.node (w107 c) .leaf .leaf)) (.node (w59 c) (.node (w91 c) .leaf .leaf) .leaf)))) (.node (w5 c) (.node (w9 c) (.node (w17 c) (.node (w33 c) (.node (w65 c) (.node (w129 c) .leaf .leaf) .leaf) (.node (w97 c) (.node (w161 c) .leaf .leaf) .leaf)) (.node (w49 c) (.node (w81 c) .leaf .leaf) (.node (w113 c) (.node (w177 c) .leaf .leaf) .leaf))) (.node (w25 c) (.node (w41 c) (.node (w73 c) .leaf .leaf) (.node (w105 c) .leaf .leaf)) (.node (w57 c) (.node (w89 c) .leaf .leaf) .leaf))) (.node (w13 c) (.node (w21 c) (.node (w37 c) (.node (w69 c) (.node (w133 c) .leaf .leaf) .leaf) (.node (w101 c) (.node (w165 c) .leaf .leaf) .leaf)) (.node (w53 c) (.node (w85 c) (.node (w149 c) .leaf .leaf) .leaf) (.node nf (.node (w181 c) .leaf .leaf) .leaf))) (.node (w29 c) (.node (w45 c) (.node (w77 c) (.node (w141 c) .leaf .leaf) .leaf) (.node (w109 c) .leaf .leaf)) (.node (w61 c) (.node (w93 c) (.node (w157 c) .leaf .leaf) .leaf) (.node (w125 c) .leaf .leaf)))))) (.node nf (.node (w4 c) (.node (w8 c) (.node (w16 c) (.node (w32 c) (.node (w64 c) (.node (w128 c) .leaf .leaf) .leaf) (.node (w96 c) (.node (w160 c) .leaf .leaf) .leaf)) (.node (w48 c) (.node (w80 c) .leaf .leaf) (.node (w112 c) (.node (w176 c) .leaf .leaf) .leaf))) (.node (w24 c) (.node (w40 c) (.node (w72 c) .leaf .leaf) (.node (w104 c) (.node (w168 c) .leaf .leaf) .leaf)) (.node (w56 c) (.node (w88 c) .leaf .leaf) .leaf))) (.node (w12 c) (.node (w20 c) (.node (w36 c) (.node (w68 c) (.node (w132 c) .leaf .leaf) .leaf) (.node (w100 c) (.node (w164 c) .leaf .leaf) .leaf)) (.node (w52 c) (.node (w84 c) .leaf .leaf) .leaf)) (.node (w28 c) (.node (w44 c) (.node (w76 c) .leaf .leaf) (.node (w108 c) .leaf .leaf)) (.node (w60 c) (.node (w92 c) .leaf .leaf) (.node (w124 c) .leaf .leaf))))) (.node (w6 c) (.node (w10 c) (.node (w18 c) (.node (w34 c) (.node (w66 c) (.node (w130 c) .leaf .leaf) .leaf) (.node (w98 c) (.node (w162 c) .leaf .leaf) .leaf)) (.node (w50 c) (.node (w82 c) .leaf .leaf) (.node (w114 c) (.node (w178 c) .leaf .leaf) .leaf))) (.node (w26 c) (.node (w42 c) (.node (w74 c) .leaf .leaf) (.node (w106 c) .leaf .leaf)) (.node (w58 c) (.node (w90 c) .leaf .leaf) .leaf))) (.node (w14 c) (.node (w22 c) (.node (w38 c) (.node (w70 c) (.node (w134 c) .leaf .leaf) .leaf) (.node (w102 c) (.node (w166 c) .leaf .leaf) .leaf)) (.node (w54 c) (.node (w86 c) .leaf .leaf) .leaf)) (.node (w30 c) (.node (w46 c) (.node (w78 c) .leaf .leaf) (.node (w110 c) .leaf .leaf)) (.node (w62 c) (.node (w94 c) (.node (w158 c) .leaf .leaf) .leaf) (.node (w126 c) .leaf .leaf)))))))
def stepF(c:ac):ac:=λck=>match ck with
 | .f f=>match Nat.blt f 182 with
  |true=>(bq f).get nf (tabW c)
  |false=>nf
 | .y κ vs l=>lookY [] κ (λvs l ls h K=>vj (BA aa ab c) (xc 0) aa drN (ab κ) vs l ls h K) vs l
def runF(n:Nat):ac:=Nat.rec (motive:=λ_=>ac) (λ_ _ _ _=>none) (λ_ c=>stepF c) n
def bZ{k:Nat}(h1:(λc=>(bq k).get nf (tabW c))=λ_=>nf)(c:ac):Ent k ((bq k).get nf (tabW c)):=by
 intro ls h K w hls hk
 rw[congrFun h1 c]at hk
 cases hk
def aj{k:Nat}{g:ac->FB}(h1:(λc=>(bq k).get nf (tabW c))=g){c:ac}(h:Ent k (g c)):Ent k ((bq k).get nf (tabW c)):=by
 rw[congrFun h1 c];exact h
def tabW_ok{c:ac}(hc:Cok c):∀f,Nat.blt f 182=true->Ent f ((bq f).get nf (tabW c))
 |0,_=>bZ (by kernel_rfl) c
 |1,_=>bZ (by kernel_rfl) c
 |2,_=>bZ (by kernel_rfl) c
 |3,_=>aj (g:=λc=>w3 c) (by kernel_rfl) (ok3 hc)
 |4,_=>aj (g:=λc=>w4 c) (by kernel_rfl) (ok4 hc)
 |5,_=>aj (g:=λc=>w5 c) (by kernel_rfl) (ok5 hc)
 |6,_=>aj (g:=λc=>w6 c) (by kernel_rfl) (ok6 hc)
 |7,_=>aj (g:=λc=>w7 c) (by kernel_rfl) (ok7 hc)
 |8,_=>aj (g:=λc=>w8 c) (by kernel_rfl) (ok8 hc)
 |9,_=>aj (g:=λc=>w9 c) (by kernel_rfl) (ok9 hc)
 |10,_=>aj (g:=λc=>w10 c) (by kernel_rfl) (ok10 hc)
 |11,_=>aj (g:=λc=>w11 c) (by kernel_rfl) (ok11 hc)
 |12,_=>aj (g:=λc=>w12 c) (by kernel_rfl) (ok12 hc)
 |13,_=>aj (g:=λc=>w13 c) (by kernel_rfl) (ok13 hc)
 |14,_=>aj (g:=λc=>w14 c) (by kernel_rfl) (ok14 hc)
 |15,_=>aj (g:=λc=>w15 c) (by kernel_rfl) (ok15 hc)
 |16,_=>aj (g:=λc=>w16 c) (by kernel_rfl) (ok16 hc)
 |17,_=>aj (g:=λc=>w17 c) (by kernel_rfl) (ok17 hc)
 |18,_=>aj (g:=λc=>w18 c) (by kernel_rfl) (ok18 hc)
 |19,_=>aj (g:=λc=>w19 c) (by kernel_rfl) (ok19 hc)
 |20,_=>aj (g:=λc=>w20 c) (by kernel_rfl) (ok20 hc)
 |21,_=>aj (g:=λc=>w21 c) (by kernel_rfl) (ok21 hc)
 |22,_=>aj (g:=λc=>w22 c) (by kernel_rfl) (ok22 hc)
 |23,_=>aj (g:=λc=>w23 c) (by kernel_rfl) (ok23 hc)
 |24,_=>aj (g:=λc=>w24 c) (by kernel_rfl) (ok24 hc)
 |25,_=>aj (g:=λc=>w25 c) (by kernel_rfl) (ok25 hc)
 |26,_=>aj (g:=λc=>w26 c) (by kernel_rfl) (ok26 hc)
 |27,_=>aj (g:=λc=>w27 c) (by kernel_rfl) (ok27 hc)
 |28,_=>aj (g:=λc=>w28 c) (by kernel_rfl) (ok28 hc)
 |29,_=>aj (g:=λc=>w29 c) (by kernel_rfl) (ok29 hc)
 |30,_=>aj (g:=λc=>w30 c) (by kernel_rfl) (ok30 hc)
 |31,_=>aj (g:=λc=>w31 c) (by kernel_rfl) (ok31 hc)
 |32,_=>aj (g:=λc=>w32 c) (by kernel_rfl) (ok32 hc)
 |33,_=>aj (g:=λc=>w33 c) (by kernel_rfl) (ok33 hc)
 |34,_=>aj (g:=λc=>w34 c) (by kernel_rfl) (ok34 hc)
 |35,_=>aj (g:=λc=>w35 c) (by kernel_rfl) (ok35 hc)
 |36,_=>aj (g:=λc=>w36 c) (by kernel_rfl) (ok36 hc)
 |37,_=>aj (g:=λc=>w37 c) (by kernel_rfl) (ok37 hc)
 |38,_=>aj (g:=λc=>w38 c) (by kernel_rfl) (ok38 hc)
 |39,_=>aj (g:=λc=>w39 c) (by kernel_rfl) (ok39 hc)
 |40,_=>aj (g:=λc=>w40 c) (by kernel_rfl) (ok40 hc)
 |41,_=>aj (g:=λc=>w41 c) (by kernel_rfl) (ok41 hc)
 |42,_=>aj (g:=λc=>w42 c) (by kernel_rfl) (ok42 hc)
 |43,_=>aj (g:=λc=>w43 c) (by kernel_rfl) (ok43 hc)
 |44,_=>aj (g:=λc=>w44 c) (by kernel_rfl) (ok44 hc)
 |45,_=>aj (g:=λc=>w45 c) (by kernel_rfl) (ok45 hc)
 |46,_=>aj (g:=λc=>w46 c) (by kernel_rfl) (ok46 hc)
 |47,_=>aj (g:=λc=>w47 c) (by kernel_rfl) (ok47 hc)
 |48,_=>aj (g:=λc=>w48 c) (by kernel_rfl) (ok48 hc)
 |49,_=>aj (g:=λc=>w49 c) (by kernel_rfl) (ok49 hc)
 |50,_=>aj (g:=λc=>w50 c) (by kernel_rfl) (ok50 hc)
 |51,_=>aj (g:=λc=>w51 c) (by kernel_rfl) (ok51 hc)
 |52,_=>aj (g:=λc=>w52 c) (by kernel_rfl) (ok52 hc)
 |53,_=>aj (g:=λc=>w53 c) (by kernel_rfl) (ok53 hc)
 |54,_=>aj (g:=λc=>w54 c) (by kernel_rfl) (ok54 hc)
 |55,_=>aj (g:=λc=>w55 c) (by kernel_rfl) (ok55 hc)
 |56,_=>aj (g:=λc=>w56 c) (by kernel_rfl) (ok56 hc)
 |57,_=>aj (g:=λc=>w57 c) (by kernel_rfl) (ok57 hc)
 |58,_=>aj (g:=λc=>w58 c) (by kernel_rfl) (ok58 hc)
 |59,_=>aj (g:=λc=>w59 c) (by kernel_rfl) (ok59 hc)
 |60,_=>aj (g:=λc=>w60 c) (by kernel_rfl) (ok60 hc)
 |61,_=>aj (g:=λc=>w61 c) (by kernel_rfl) (ok61 hc)
 |62,_=>aj (g:=λc=>w62 c) (by kernel_rfl) (ok62 hc)
 |63,_=>aj (g:=λc=>w63 c) (by kernel_rfl) (ok63 hc)
 |64,_=>aj (g:=λc=>w64 c) (by kernel_rfl) (ok64 hc)
 |65,_=>aj (g:=λc=>w65 c) (by kernel_rfl) (ok65 hc)
 |66,_=>aj (g:=λc=>w66 c) (by kernel_rfl) (ok66 hc)
 |67,_=>aj (g:=λc=>w67 c) (by kernel_rfl) (ok67 hc)
 |68,_=>aj (g:=λc=>w68 c) (by kernel_rfl) (ok68 hc)
 |69,_=>aj (g:=λc=>w69 c) (by kernel_rfl) (ok69 hc)
 |70,_=>aj (g:=λc=>w70 c) (by kernel_rfl) (ok70 hc)
 |71,_=>aj (g:=λc=>w71 c) (by kernel_rfl) (ok71 hc)
 |72,_=>aj (g:=λc=>w72 c) (by kernel_rfl) (ok72 hc)
 |73,_=>aj (g:=λc=>w73 c) (by kernel_rfl) (ok73 hc)
 |74,_=>aj (g:=λc=>w74 c) (by kernel_rfl) (ok74 hc)
 |75,_=>aj (g:=λc=>w75 c) (by kernel_rfl) (ok75 hc)
 |76,_=>aj (g:=λc=>w76 c) (by kernel_rfl) (ok76 hc)
 |77,_=>aj (g:=λc=>w77 c) (by kernel_rfl) (ok77 hc)
 |78,_=>aj (g:=λc=>w78 c) (by kernel_rfl) (ok78 hc)
 |79,_=>aj (g:=λc=>w79 c) (by kernel_rfl) (ok79 hc)
 |80,_=>aj (g:=λc=>w80 c) (by kernel_rfl) (ok80 hc)
 |81,_=>aj (g:=λc=>w81 c) (by kernel_rfl) (ok81 hc)
 |82,_=>aj (g:=λc=>w82 c) (by kernel_rfl) (ok82 hc)
 |83,_=>aj (g:=λc=>w83 c) (by kernel_rfl) (ok83 hc)
 |84,_=>aj (g:=λc=>w84 c) (by kernel_rfl) (ok84 hc)
 |85,_=>aj (g:=λc=>w85 c) (by kernel_rfl) (ok85 hc)
 |86,_=>aj (g:=λc=>w86 c) (by kernel_rfl) (ok86 hc)
 |87,_=>aj (g:=λc=>w87 c) (by kernel_rfl) (ok87 hc)
 |88,_=>aj (g:=λc=>w88 c) (by kernel_rfl) (ok88 hc)
 |89,_=>aj (g:=λc=>w89 c) (by kernel_rfl) (ok89 hc)
 |90,_=>aj (g:=λc=>w90 c) (by kernel_rfl) (ok90 hc)
 |91,_=>aj (g:=λc=>w91 c) (by kernel_rfl) (ok91 hc)
 |92,_=>aj (g:=λc=>w92 c) (by kernel_rfl) (ok92 hc)
 |93,_=>aj (g:=λc=>w93 c) (by kernel_rfl) (ok93 hc)
 |94,_=>aj (g:=λc=>w94 c) (by kernel_rfl) (ok94 hc)
 |95,_=>aj (g:=λc=>w95 c) (by kernel_rfl) (ok95 hc)
 |96,_=>aj (g:=λc=>w96 c) (by kernel_rfl) (ok96 hc)
 |97,_=>aj (g:=λc=>w97 c) (by kernel_rfl) (ok97 hc)
 |98,_=>aj (g:=λc=>w98 c) (by kernel_rfl) (ok98 hc)
 |99,_=>aj (g:=λc=>w99 c) (by kernel_rfl) (ok99 hc)
 |100,_=>aj (g:=λc=>w100 c) (by kernel_rfl) (ok100 hc)
 |101,_=>aj (g:=λc=>w101 c) (by kernel_rfl) (ok101 hc)
 |102,_=>aj (g:=λc=>w102 c) (by kernel_rfl) (ok102 hc)
 |103,_=>aj (g:=λc=>w103 c) (by kernel_rfl) (ok103 hc)
 |104,_=>aj (g:=λc=>w104 c) (by kernel_rfl) (ok104 hc)
 |105,_=>aj (g:=λc=>w105 c) (by kernel_rfl) (ok105 hc)
 |106,_=>aj (g:=λc=>w106 c) (by kernel_rfl) (ok106 hc)
 |107,_=>aj (g:=λc=>w107 c) (by kernel_rfl) (ok107 hc)
 |108,_=>aj (g:=λc=>w108 c) (by kernel_rfl) (ok108 hc)
 |109,_=>aj (g:=λc=>w109 c) (by kernel_rfl) (ok109 hc)
 |110,_=>aj (g:=λc=>w110 c) (by kernel_rfl) (ok110 hc)
 |111,_=>aj (g:=λc=>w111 c) (by kernel_rfl) (ok111 hc)
 |112,_=>aj (g:=λc=>w112 c) (by kernel_rfl) (ok112 hc)
 |113,_=>aj (g:=λc=>w113 c) (by kernel_rfl) (ok113 hc)
 |114,_=>aj (g:=λc=>w114 c) (by kernel_rfl) (ok114 hc)
 |115,_=>aj (g:=λc=>w115 c) (by kernel_rfl) (ok115 hc)
 |116,_=>bZ (by kernel_rfl) c
 |117,_=>bZ (by kernel_rfl) c
 |118,_=>bZ (by kernel_rfl) c
 |119,_=>bZ (by kernel_rfl) c
 |120,_=>bZ (by kernel_rfl) c
 |121,_=>bZ (by kernel_rfl) c
 |122,_=>bZ (by kernel_rfl) c
 |123,_=>bZ (by kernel_rfl) c
 |124,_=>aj (g:=λc=>w124 c) (by kernel_rfl) (ok124 hc)
 |125,_=>aj (g:=λc=>w125 c) (by kernel_rfl) (ok125 hc)
 |126,_=>aj (g:=λc=>w126 c) (by kernel_rfl) (ok126 hc)
 |127,_=>aj (g:=λc=>w127 c) (by kernel_rfl) (ok127 hc)
 |128,_=>aj (g:=λc=>w128 c) (by kernel_rfl) (ok128 hc)
 |129,_=>aj (g:=λc=>w129 c) (by kernel_rfl) (ok129 hc)
 |130,_=>aj (g:=λc=>w130 c) (by kernel_rfl) (ok130 hc)
 |131,_=>aj (g:=λc=>w131 c) (by kernel_rfl) (ok131 hc)
 |132,_=>aj (g:=λc=>w132 c) (by kernel_rfl) (ok132 hc)
 |133,_=>aj (g:=λc=>w133 c) (by kernel_rfl) (ok133 hc)
 |134,_=>aj (g:=λc=>w134 c) (by kernel_rfl) (ok134 hc)
 |135,_=>aj (g:=λc=>w135 c) (by kernel_rfl) (ok135 hc)
 |136,_=>bZ (by kernel_rfl) c
 |137,_=>bZ (by kernel_rfl) c
 |138,_=>bZ (by kernel_rfl) c
 |139,_=>bZ (by kernel_rfl) c
 |140,_=>bZ (by kernel_rfl) c
 |141,_=>aj (g:=λc=>w141 c) (by kernel_rfl) (ok141 hc)
 |142,_=>bZ (by kernel_rfl) c
 |143,_=>bZ (by kernel_rfl) c
 |144,_=>bZ (by kernel_rfl) c
 |145,_=>bZ (by kernel_rfl) c
 |146,_=>bZ (by kernel_rfl) c
 |147,_=>bZ (by kernel_rfl) c
 |148,_=>bZ (by kernel_rfl) c
 |149,_=>aj (g:=λc=>w149 c) (by kernel_rfl) (ok149 hc)
 |150,_=>bZ (by kernel_rfl) c
 |151,_=>bZ (by kernel_rfl) c
 |152,_=>bZ (by kernel_rfl) c
 |153,_=>bZ (by kernel_rfl) c
 |154,_=>bZ (by kernel_rfl) c
 |155,_=>bZ (by kernel_rfl) c
 |156,_=>bZ (by kernel_rfl) c
 |157,_=>aj (g:=λc=>w157 c) (by kernel_rfl) (ok157 hc)
 |158,_=>aj (g:=λc=>w158 c) (by kernel_rfl) (ok158 hc)
 |159,_=>aj (g:=λc=>w159 c) (by kernel_rfl) (ok159 hc)
 |160,_=>aj (g:=λc=>w160 c) (by kernel_rfl) (ok160 hc)
 |161,_=>aj (g:=λc=>w161 c) (by kernel_rfl) (ok161 hc)
 |162,_=>aj (g:=λc=>w162 c) (by kernel_rfl) (ok162 hc)
 |163,_=>aj (g:=λc=>w163 c) (by kernel_rfl) (rn hc)
 |164,_=>aj (g:=λc=>w164 c) (by kernel_rfl) (ok164 hc)
 |165,_=>aj (g:=λc=>w165 c) (by kernel_rfl) (ok165 hc)
 |166,_=>aj (g:=λc=>w166 c) (by kernel_rfl) (ok166 hc)
 |167,_=>aj (g:=λc=>w167 c) (by kernel_rfl) (ok167 hc)
 |168,_=>aj (g:=λc=>w168 c) (by kernel_rfl) (ok168 hc)
 |169,_=>bZ (by kernel_rfl) c
 |170,_=>bZ (by kernel_rfl) c
 |171,_=>bZ (by kernel_rfl) c
 |172,_=>bZ (by kernel_rfl) c
 |173,_=>bZ (by kernel_rfl) c
 |174,_=>bZ (by kernel_rfl) c
 |175,_=>bZ (by kernel_rfl) c
 |176,_=>aj (g:=λc=>w176 c) (by kernel_rfl) (ok176 hc)
 |177,_=>aj (g:=λc=>w177 c) (by kernel_rfl) (ok177 hc)
 |178,_=>aj (g:=λc=>w178 c) (by kernel_rfl) (ok178 hc)
 |179,_=>bZ (by kernel_rfl) c
 |180,_=>bZ (by kernel_rfl) c
 |181,_=>aj (g:=λc=>w181 c) (by kernel_rfl) (ok181 hc)
 |n+182,h=>by rw[qaU]at h;omega
def stepF_ok{c:ac}(hc:Cok c):Cok (stepF c):=by
 refine⟨λf ls h K w hls hk=>?_,λκ vs l ls h K w st pd xs e hy hk=>?_⟩
 ·have hk:(match Nat.blt f 182 with|true=>(bq f).get nf (tabW c)|false=>nf) ls h K=some w:=hk
  cases e:Nat.blt f 182 with
  |true=>rw[e]at hk;exact tabW_ok hc f e ls h K w hls hk
  |false=>rw[e]at hk;cases hk
 ·have hd:YOk cc aa ab κ (λvs l ls h K=>vj (BA aa ab c) (xc 0) aa drN (ab κ) vs l ls h K):=y_of (g:=λc vs l ls h K=>vj (BA aa ab c) (xc 0) aa drN (ab κ) vs l ls h K) (ct:=λc=>c) (λ_ _ _ _ _=>rfl) hc
  refine tT hd (l:=[]) (λp hp=>?_) vs l ls h K w st pd xs e hy hk
  cases hp
def runF_ok:∀n,Cok (runF n)
 |0=>⟨λ_ _ _ _ _ _ h=>by(cases h),λ_ _ _ _ _ _ _ _ _ _ _ _ h=>by(cases h)⟩
 |n+1=>stepF_ok (runF_ok n)
end Go.Am
namespace Go.Am
namespace Sx
section
variable [Val] [Kno]
def peekH(T:Tt)(f:Pk)(h:HL)(K:Te):Prop:=∃cs,f.run (getH T h)=some cs/\K cs
abbrev _root_.Ta:=List Value->HL->Prop
def heapH(T:Tt)(f:Hp)(h:HL)(K:Ta):Prop:=∃acts cs,f.run (getH T h) h.length=some (acts,cs)/\K cs (cm h acts)
abbrev _root_.Td:=List Lf->HL->Prop
def callH(C:Cfg)(Sg:Tc)(T:Tt)(g:TJ)(ls:TB)(h:HL)(K:Td):Prop:=∃rs h',aW C Sg g ls (absH T h) rs (absH T h')/\K rs h'
def callvH(C:Cfg)(T:Tt)(v:Value)(args:Tl)(hs:TG)(h:HL)(K:Td):Prop:=∃rs h',qe C v args hs (absH T h) rs (absH T h')/\K rs h'
def itH(F:(TB->HL->Prop)->TB->HL->Prop)(n:Nat):TB->HL->Prop:=
 match n with
 |0=>λ_ _=>False
 |n+1=>F (itH F n)
def loopH(F:(TB->HL->Prop)->TB->HL->Prop)(ls:TB)(h:HL):Prop:=∃n,itH F n ls h
def rfunH(C:Cfg)(T:Tt)(κ:Nat)(v:Value)(vals:Tl)(h:HL)(K:Tk->HL->Prop):Prop:=
 ∃g first cap r H1 lp h2,v = .func (.func g) first cap/\
  gD C g (first.toList++[.func (.yield (absH T h).length) #[] #[]]++cap.toList) (absH T h++[.loop (lpOf (T κ) κ vals)]) r H1/\
  dG H1 (absH T h).length=some lp/\lp.state≠.busy/\absH T h2=H1.set (absH T h).length (.loop { lp with state:=.exhausted })/\K lp.pending h2
def lp1H(T:Tt)(l:Nat)(h:HL)(K:HL->Prop):Prop:=∃lp h',dG (absH T h) l=some lp/\lp.state = .ready/\absH T h'=(absH T h).set l (.loop { lp with state:=.busy })/\K h'
def lp2H(T:Tt)(l:Nat)(j:Tk)(h:HL)(K:HL->Prop):Prop:=∃lp h',dG (absH T h) l=some lp/\absH T h'=(absH T h).set l (.loop { lp with state:=if j.isNone then .ready else .done,pending:=j })/\K h'
def PH(C:Cfg)(Sg:Tc)(T:Tt):Alg Prop HL where
 fail:=False
 cond:=condP
 ari:=ariP
 shf:=λop k a k' b K=>∃n,ShRun op k a k' b n/\K n
 cmp:=cmpP
 eqs:=λl K=>K (bP l)
 conv:=λk a K=>K (k.wrap a)
 sel:=λt a b K=>K (if t then a else b)
 opt:=optP
 chk:=λv K=>aY v=true/\K
 unI:=unIP
 unB:=unBP
 unV:=unVP
 un0:=un0P
 ucI:=ucIP
 ucB:=ucBP
 ucV:=ucVP
 uc0:=uc0P
 peek:=peekH T
 heap:=heapH T
 new:=λo h K=>K h.length (h++[.o o])
 call:=callH C Sg T
 callv:=callvH C T
 join:=λb m=>m b
 loop:=loopH
 rfun:=rfunH C T
 pend:=pendP
 lp1:=lp1H T
 lp2:=lp2H T
def PH_ok(C:Cfg)(Sg:Tc)(T:Tt):AlgOk (PH C Sg T) C Sg T id (absH T) where
 fail:=(eO C Sg T).fail
 cond:=(eO C Sg T).cond
 ari:=(eO C Sg T).ari
 shf:=(eO C Sg T).shf
 cmp:=(eO C Sg T).cmp
 eqs:=(eO C Sg T).eqs
 conv:=(eO C Sg T).conv
 sel:=(eO C Sg T).sel
 opt:=(eO C Sg T).opt
 chk:=(eO C Sg T).chk
 unI:=(eO C Sg T).unI
 unB:=(eO C Sg T).unB
 unV:=(eO C Sg T).unV
 un0:=(eO C Sg T).un0
 ucI:=(eO C Sg T).ucI
 ucB:=(eO C Sg T).ucB
 ucV:=(eO C Sg T).ucV
 uc0:=(eO C Sg T).uc0
 peek:=by
  intro f h K hk
  obtain⟨cs,h1,h2⟩:=hk
  exact⟨cs,by rw[←lL];exact h1,h2⟩
 heap:=by
  intro f h K hk
  obtain⟨acts,cs,h1,h2⟩:=hk
  exact⟨acts,cs,_,by rw[←lL,ig];exact h1,iV T acts h,h2⟩
 new:=λo h K hk=>⟨_,ii T h _,by rw[ig];exact hk⟩
 call:=λg ls h K hk=>hk
 callv:=λv args hs h K hk=>hk
 join:=λb m h=>h
 loop:=by
  intro F ls h hk
  obtain⟨n,hk⟩:=hk
  exact⟨itH F,λls h=>(id:False->False),λn ls h=>rfl,n,hk⟩
 rfun:=λκ v vals h K hk=>hk
 pend:=(eO C Sg T).pend
 lp1:=λl h K hk=>hk
 lp2:=λl j h K hk=>hk
section
variable {C:Cfg} {Sg:Tc} {T:Tt} {call:ac} (hc:CallBOk C Sg T call)
include hc
inductive SL2:List (Nat×RT)->List (Nat×Prop)->Prop
 |nil:SL2 [] []
 |cons {id:Nat} {x:RT} {x':Prop} {l:List (Nat×RT)} {l':List (Nat×Prop)} (hx:x=yes->x') (hl:SL2 l l'):SL2 ((id,x) :: l) ((id,x') :: l')
end
def tQ{F:(TB->HL->Prop)->TB->HL->Prop}(Inv:Nat->TB->HL->Prop)
  (step:∀m ls h,Inv m ls h->∀self:TB->HL->Prop,(∀m' ls h,m'<m->Inv m' ls h->self ls h)->F self ls h):∀n m ls h,m<n->Inv m ls h->itH F n ls h
 |0,_,_,_,hm,_=>absurd hm (qdj _)
 |n+1,m,ls,h,hm,hi=>step m ls h hi (itH F n) λm' ls h h' hi'=>tQ Inv step n m' ls h (by omega) hi'
def gf{F:(TB->HL->Prop)->TB->HL->Prop}(Inv:Nat->TB->HL->Prop){m:Nat}{ls:TB}{h:HL}(hi:Inv m ls h)
  (step:∀m ls h,Inv m ls h->∀self:TB->HL->Prop,(∀m' ls h,m'<m->Inv m' ls h->self ls h)->F self ls h):loopH F ls h:=
 ⟨m+1,tQ Inv step (m+1) m ls h (qbU m) hi⟩
end
end Sx
namespace Sx
class Bx (α:Sort _) where
 v:α
def hid{α:Sort _} [b:Bx α]:α:=b.v
section
variable [Val] [Kno] {C:Cfg} {Sg:Tc} {T:Tt}
def b_unI{n:Int}{r:TB}{K:Int->TB->Prop}:(PH C Sg T).unI (.i n :: r) K=K n r:=rfl
def b_unB{n:Bool}{r:TB}{K:Bool->TB->Prop}:(PH C Sg T).unB (.b n :: r) K=K n r:=rfl
def b_unV{n:Value}{r:TB}{K:Value->TB->Prop}:(PH C Sg T).unV (.v n :: r) K=K n r:=rfl
def b_un0{K:Prop}:(PH C Sg T).un0 [] K=K:=rfl
def b_ucI{k:TF}{n:Int}{r:Tl}{K:Int->Tl->Prop}:(PH C Sg T).ucI k (.int k n :: r) K=K n r:=by
 show(k=k/\K n r)=K n r
 simp
def b_ucB{n:Bool}{r:Tl}{K:Bool->Tl->Prop}:(PH C Sg T).ucB (.bool n :: r) K=K n r:=rfl
def b_ucV{n:Value}{r:Tl}{K:Value->Tl->Prop}:(PH C Sg T).ucV (n :: r) K=K n r:=rfl
def b_uc0{K:Prop}:(PH C Sg T).uc0 [] K=K:=rfl
def b_cond_t{X Y:Prop}:(PH C Sg T).cond true X Y=X:=by
 show((true=true->X)/\(true=false->Y))=X
 simp
def b_cond_f{X Y:Prop}:(PH C Sg T).cond false X Y=Y:=by
 show((false=true->X)/\(false=false->Y))=Y
 simp
def b_lss_t{a b:Int}{K:To}(h:a<b):(PH C Sg T).cmp .lss a b K=K true:=by
 show K (decide (a<b))=_;rw[qdp h]
def b_lss_f{a b:Int}{K:To}(h:b<=a):(PH C Sg T).cmp .lss a b K=K false:=by
 show K (decide (a<b))=_;rw[qdo (by omega)]
def b_leq_t{a b:Int}{K:To}(h:a<=b):(PH C Sg T).cmp .leq a b K=K true:=by
 show K (decide (a<=b))=_;rw[qdp h]
def b_leq_f{a b:Int}{K:To}(h:b<a):(PH C Sg T).cmp .leq a b K=K false:=by
 show K (decide (a<=b))=_;rw[qdo (by omega)]
def b_gtr_t{a b:Int}{K:To}(h:b<a):(PH C Sg T).cmp .gtr a b K=K true:=by
 show K (decide (a > b))=_;rw[qdp h]
def b_gtr_f{a b:Int}{K:To}(h:a<=b):(PH C Sg T).cmp .gtr a b K=K false:=by
 show K (decide (a > b))=_;rw[qdo (by omega)]
def b_geq_t{a b:Int}{K:To}(h:b<=a):(PH C Sg T).cmp .geq a b K=K true:=by
 show K (decide (a ≥ b))=_;rw[qdp h]
def b_geq_f{a b:Int}{K:To}(h:a<b):(PH C Sg T).cmp .geq a b K=K false:=by
 show K (decide (a ≥ b))=_;rw[qdo (by omega)]
def b_eql_t{a b:Int}{K:To}(h:a=b):(PH C Sg T).cmp .eql a b K=K true:=by
 show K (a==b)=_;rw[beq_iff_eq.2 h]
def b_eql_f{a b:Int}{K:To}(h:a≠b):(PH C Sg T).cmp .eql a b K=K false:=by
 show K (a==b)=_;rw[beq_false_of_ne h]
def b_neq_t{a b:Int}{K:To}(h:a≠b):(PH C Sg T).cmp .neq a b K=K true:=by
 show K (a != b)=_;rw[bne_iff_ne.2 h]
def b_neq_f{a b:Int}{K:To}(h:a=b):(PH C Sg T).cmp .neq a b K=K false:=by
 show K (a != b)=_;subst h;simp
def b_add{a b:Int}{K:Tu}(h1:-9223372036854775808<=a+b)(h2:a+b<=9223372036854775807):(PH C Sg T).ari .add .i64 a b K=K (a+b):=by
 show K (IntKind.wrap .i64 (a+b))=_;rw[cw h1 h2]
def b_sub{a b:Int}{K:Tu}(h1:-9223372036854775808<=a - b)(h2:a - b<=9223372036854775807):(PH C Sg T).ari .sub .i64 a b K=K (a - b):=by
 show K (IntKind.wrap .i64 (a - b))=_;rw[cw h1 h2]
def b_mul{a b:Int}{K:Tu}(h1:-9223372036854775808<=a*b)(h2:a*b<=9223372036854775807):(PH C Sg T).ari .mul .i64 a b K=K (a*b):=by
 show K (IntKind.wrap .i64 (a*b))=_;rw[cw h1 h2]
def b_add8{a b:Int}{K:Tu}(h1:0<=a+b)(h2:a+b<=255):(PH C Sg T).ari .add .u8 a b K=K (a+b):=by
 show K (IntKind.wrap .u8 (a+b))=_;rw[pZ h1 h2]
def b_sub8{a b:Int}{K:Tu}(h1:0<=a - b)(h2:a - b<=255):(PH C Sg T).ari .sub .u8 a b K=K (a - b):=by
 show K (IntKind.wrap .u8 (a - b))=_;rw[pZ h1 h2]
def b_mul8{a b:Int}{K:Tu}(h1:0<=a*b)(h2:a*b<=255):(PH C Sg T).ari .mul .u8 a b K=K (a*b):=by
 show K (IntKind.wrap .u8 (a*b))=_;rw[pZ h1 h2]
def tdiv_nn{a b:Int}(h:0<=a):a.tdiv b=a / b:=Int.tdiv_eq_ediv_of_nonneg h
def b_quo_nn{a b:Int}{K:Tu}(h:0<=a)(hb:0<b)(h2:a<=9223372036854775807):(PH C Sg T).ari .quo .i64 a b K=K (a / b):=by
 show(b≠0/\K (IntKind.wrap .i64 (a.tdiv b)))=_
 have h3:a / b<=a:=Int.ediv_le_self b h
 have h4:0<=a / b:=Int.ediv_nonneg h (by omega)
 rw[tdiv_nn h,cw (by omega) (by omega)]
 simp;intro _ h;omega
def b_quo_dv{a b:Int}{K:Tu}(h:a%b=0)(hb:0<b)(h1:-9223372036854775808<=a)(h2:a<=9223372036854775807):(PH C Sg T).ari .quo .i64 a b K=K (a / b):=by
 show(b≠0/\K (IntKind.wrap .i64 (a.tdiv b)))=_
 obtain⟨q,rfl⟩:=Int.dvd_of_emod_eq_zero h
 rw[Int.mul_tdiv_cancel_left q (by omega),Int.mul_ediv_cancel_left q (by omega)]
 have hq:-9223372036854775808<=q/\q<=9223372036854775807:=by
  rcases Int.le_total 0 q with hs|hs
  ·have:=qb3 (show(1:Int)<=b by omega) hs
   omega
  ·have:=qb3 (show(1:Int)<=b by omega) (show 0<=-q by omega)
   rw[Int.mul_neg b q]at this
   omega
 rw[cw hq.1 hq.2]
 simp;intro _ h;omega
def b_rem_nn{k:TF}{a b:Int}{K:Tu}(h:0<=a)(hb:0<b):(PH C Sg T).ari .rem k a b K=K (a%b):=by
 show(b≠0/\K (a.tmod b))=_
 rw[qcR h]
 simp;intro _ h;omega
def b_rem_np{k:TF}{a b:Int}{K:Tu}(h:a<=0)(hb:0<b):(PH C Sg T).ari .rem k a b K=K (-((-a)%b)):=by
 show(b≠0/\K (a.tmod b))=_
 have:a.tmod b = -((-a)%b):=by
  have h1:=Int.neg_tmod a b
  rw[qcR (a:=-a) (by omega)]at h1
  omega
 rw[this]
 simp;intro _ h;omega
def b_and1{a:Int}{K:Tu}:(PH C Sg T).ari .and .i64 a 1 K=K (a%2):=by
 show(((1:Int)=1/\K (a%2))∨((1:Int)≠1/\∃n,ou .and .i64 a 1 n/\K n))=K (a%2)
 simp
def b_conv{a:Int}{K:Tu}(h1:-9223372036854775808<=a)(h2:a<=9223372036854775807):(PH C Sg T).conv .i64 a K=K a:=by
 show K (IntKind.wrap .i64 a)=_;rw[cw h1 h2]
def b_conv8{a:Int}{K:Tu}(h1:0<=a)(h2:a<=255):(PH C Sg T).conv .u8 a K=K a:=by
 show K (IntKind.wrap .u8 a)=_;rw[pZ h1 h2]
def b_sel_t{a b:Int}{K:Tu}:(PH C Sg T).sel true a b K=K a:=rfl
def b_sel_f{a b:Int}{K:Tu}:(PH C Sg T).sel false a b K=K b:=rfl
def b_opt{α:Type}{x:α}{K:α->Prop}:(PH C Sg T).opt (some x) K=K x:=by
 show(∃y,some x=some y/\K y)=K x
 simp
def b_inB{n:Nat}{i:Int}{K:Unit->Prop}(h1:0<=i)(h2:i<(n:Int)):(PH C Sg T).opt (inB n i) K=K ():=by
 rw[show inB n i=some ()from(inB_eq n i).trans (qdq ⟨h1,h2⟩),b_opt]
def b_join{b:Td}{m:(TB->HL->Prop)->Prop}:(PH C Sg T).join b m=m b:=rfl
def b_eqs0{K:To}:(PH C Sg T).eqs [] K=K true:=rfl
def b_eqs_t{a b:Int}{l:List (Lf×Lf)}{K:To}(h:a=b):(PH C Sg T).eqs ((.i a,.i b) :: l) K=(PH C Sg T).eqs l K:=by
 show K (bP _)=K (bP l)
 subst h
 simp[bP,fK]
def b_eqs_f{a b:Int}{l:List (Lf×Lf)}{K:To}(h:a≠b):(PH C Sg T).eqs ((.i a,.i b) :: l) K=K false:=by
 show K (bP _)=K false
 have:(a==b)=false:=beq_false_of_ne h
 simp[bP,fK,this]
def rq{F:(TB->HL->Prop)->TB->HL->Prop}{ls:TB}{h:HL}(n:Nat)(hn:itH F n ls h):(PH C Sg T).loop F ls h:=⟨n,hn⟩
def b_it{F:(TB->HL->Prop)->TB->HL->Prop}{n:Nat}{ls:TB}{h:HL}:itH F (n+1) ls h=F (itH F n) ls h:=rfl
def ah{g:TJ}{ls rs:TB}{h:HL}{K:Td}(hc:∀H,aW C Sg g ls H rs H)(hk:K rs h):(PH C Sg T).call g ls h (@hid _ ⟨K⟩):=⟨rs,h,hc _,hk⟩
def b_eqsb_t{a b:Bool}{l:List (Lf×Lf)}{K:To}(h:a=b):(PH C Sg T).eqs ((.b a,.b b) :: l) K=(PH C Sg T).eqs l K:=by
 show K (bP _)=K (bP l)
 subst h
 simp[bP,fK]
def b_eqsb_tf{l:List (Lf×Lf)}{K:To}:(PH C Sg T).eqs ((.b true,.b false) :: l) K=K false:=rfl
def b_eqsb_ft{l:List (Lf×Lf)}{K:To}:(PH C Sg T).eqs ((.b false,.b true) :: l) K=K false:=rfl
def b_mul_1{b:Int}{K:Tu}(h1:-9223372036854775808<=b)(h2:b<=9223372036854775807):(PH C Sg T).ari .mul .i64 1 b K=K b:=by
 show K (IntKind.wrap .i64 (1*b))=_;rw[Int.one_mul,cw h1 h2]
def b_mul_0{b:Int}{K:Tu}:(PH C Sg T).ari .mul .i64 0 b K=K 0:=by
 show K (IntKind.wrap .i64 (0*b))=_;rw[Int.zero_mul];rfl
def b_mul_m{b:Int}{K:Tu}(h1:-9223372036854775808<=-b)(h2:-b<=9223372036854775807):(PH C Sg T).ari .mul .i64 (-1) b K=K (-b):=by
 show K (IntKind.wrap .i64 (-1*b))=_
 have:(-1*b:Int) = -b:=by omega
 rw[this,cw h1 h2]
def b_mul_r1{b:Int}{K:Tu}(h1:-9223372036854775808<=b)(h2:b<=9223372036854775807):(PH C Sg T).ari .mul .i64 b 1 K=K b:=by
 show K (IntKind.wrap .i64 (b*1))=_;rw[Int.mul_one,cw h1 h2]
def b_mul_r0{b:Int}{K:Tu}:(PH C Sg T).ari .mul .i64 b 0 K=K 0:=by
 show K (IntKind.wrap .i64 (b*0))=_;rw[Int.mul_zero];rfl
def b_mul_rm{b:Int}{K:Tu}(h1:-9223372036854775808<=-b)(h2:-b<=9223372036854775807):(PH C Sg T).ari .mul .i64 b (-1) K=K (-b):=by
 show K (IntKind.wrap .i64 (b * -1))=_
 have:(b * -1:Int) = -b:=by omega
 rw[this,cw h1 h2]
def b_add_0{b:Int}{K:Tu}(h1:-9223372036854775808<=b)(h2:b<=9223372036854775807):(PH C Sg T).ari .add .i64 0 b K=K b:=by
 show K (IntKind.wrap .i64 (0+b))=_;rw[Int.zero_add,cw h1 h2]
def b_add_r0{b:Int}{K:Tu}(h1:-9223372036854775808<=b)(h2:b<=9223372036854775807):(PH C Sg T).ari .add .i64 b 0 K=K b:=by
 show K (IntKind.wrap .i64 (b+0))=_;rw[Int.add_zero,cw h1 h2]
def b_add_11{K:Tu}:(PH C Sg T).ari .add .i64 1 1 K=K 2:=by
 show K (IntKind.wrap .i64 (1+1))=_;rfl
def b_quo_1{a:Int}{K:Tu}(h1:-9223372036854775808<=a)(h2:a<=9223372036854775807):(PH C Sg T).ari .quo .i64 a 1 K=K a:=by
 show((1:Int)≠0/\K (IntKind.wrap .i64 (a.tdiv 1)))=_
 rw[Int.tdiv_one,cw h1 h2];simp
def aE{α:Type}{o:Option α}{x:α}{K:α->Prop}(h:o=some x)(hk:K x):(PH C Sg T).opt o (@hid _ ⟨K⟩):=⟨x,h,hk⟩
theorem p_unI{n:Int}{r:TB}{K:Int->TB->Prop}:(PH C Sg T).unI (.i n :: r) (@hid _ ⟨K⟩)=K n r:=b_unI
theorem p_unB{n:Bool}{r:TB}{K:Bool->TB->Prop}:(PH C Sg T).unB (.b n :: r) (@hid _ ⟨K⟩)=K n r:=b_unB
theorem p_unV{n:Value}{r:TB}{K:Value->TB->Prop}:(PH C Sg T).unV (.v n :: r) (@hid _ ⟨K⟩)=K n r:=b_unV
theorem p_un0{K:Prop}:(PH C Sg T).un0 [] (@hid _ ⟨K⟩)=K:=b_un0
theorem p_ucI{k:TF}{n:Int}{r:Tl}{K:Int->Tl->Prop}:(PH C Sg T).ucI k (.int k n :: r) (@hid _ ⟨K⟩)=K n r:=b_ucI
theorem p_ucB{n:Bool}{r:Tl}{K:Bool->Tl->Prop}:(PH C Sg T).ucB (.bool n :: r) (@hid _ ⟨K⟩)=K n r:=b_ucB
theorem p_ucV{n:Value}{r:Tl}{K:Value->Tl->Prop}:(PH C Sg T).ucV (n :: r) (@hid _ ⟨K⟩)=K n r:=b_ucV
theorem p_uc0{K:Prop}:(PH C Sg T).uc0 [] (@hid _ ⟨K⟩)=K:=b_uc0
theorem p_cond_t{X Y:Prop}:(PH C Sg T).cond true (@hid _ ⟨X⟩) Y=X:=b_cond_t
theorem p_cond_f{X Y:Prop}:(PH C Sg T).cond false X (@hid _ ⟨Y⟩)=Y:=b_cond_f
theorem p_lss_t{a b:Int}{K:To}(h:a<b):(PH C Sg T).cmp .lss a b (@hid _ ⟨K⟩)=K true:=b_lss_t h
theorem p_lss_f{a b:Int}{K:To}(h:b<=a):(PH C Sg T).cmp .lss a b (@hid _ ⟨K⟩)=K false:=b_lss_f h
theorem p_leq_t{a b:Int}{K:To}(h:a<=b):(PH C Sg T).cmp .leq a b (@hid _ ⟨K⟩)=K true:=b_leq_t h
theorem p_leq_f{a b:Int}{K:To}(h:b<a):(PH C Sg T).cmp .leq a b (@hid _ ⟨K⟩)=K false:=b_leq_f h
theorem p_gtr_t{a b:Int}{K:To}(h:b<a):(PH C Sg T).cmp .gtr a b (@hid _ ⟨K⟩)=K true:=b_gtr_t h
theorem p_gtr_f{a b:Int}{K:To}(h:a<=b):(PH C Sg T).cmp .gtr a b (@hid _ ⟨K⟩)=K false:=b_gtr_f h
theorem p_geq_t{a b:Int}{K:To}(h:b<=a):(PH C Sg T).cmp .geq a b (@hid _ ⟨K⟩)=K true:=b_geq_t h
theorem p_geq_f{a b:Int}{K:To}(h:a<b):(PH C Sg T).cmp .geq a b (@hid _ ⟨K⟩)=K false:=b_geq_f h
theorem p_eql_t{a b:Int}{K:To}(h:a=b):(PH C Sg T).cmp .eql a b (@hid _ ⟨K⟩)=K true:=b_eql_t h
theorem p_eql_f{a b:Int}{K:To}(h:a≠b):(PH C Sg T).cmp .eql a b (@hid _ ⟨K⟩)=K false:=b_eql_f h
theorem p_neq_t{a b:Int}{K:To}(h:a≠b):(PH C Sg T).cmp .neq a b (@hid _ ⟨K⟩)=K true:=b_neq_t h
theorem p_neq_f{a b:Int}{K:To}(h:a=b):(PH C Sg T).cmp .neq a b (@hid _ ⟨K⟩)=K false:=b_neq_f h
theorem p_add{a b:Int}{K:Tu}(h1:-9223372036854775808<=a+b)(h2:a+b<=9223372036854775807):(PH C Sg T).ari .add .i64 a b (@hid _ ⟨K⟩)=K (a+b):=b_add h1 h2
theorem p_sub{a b:Int}{K:Tu}(h1:-9223372036854775808<=a - b)(h2:a - b<=9223372036854775807):(PH C Sg T).ari .sub .i64 a b (@hid _ ⟨K⟩)=K (a - b):=b_sub h1 h2
theorem p_mul{a b:Int}{K:Tu}(h1:-9223372036854775808<=a*b)(h2:a*b<=9223372036854775807):(PH C Sg T).ari .mul .i64 a b (@hid _ ⟨K⟩)=K (a*b):=b_mul h1 h2
theorem p_add8{a b:Int}{K:Tu}(h1:0<=a+b)(h2:a+b<=255):(PH C Sg T).ari .add .u8 a b (@hid _ ⟨K⟩)=K (a+b):=b_add8 h1 h2
theorem p_sub8{a b:Int}{K:Tu}(h1:0<=a - b)(h2:a - b<=255):(PH C Sg T).ari .sub .u8 a b (@hid _ ⟨K⟩)=K (a - b):=b_sub8 h1 h2
theorem p_mul8{a b:Int}{K:Tu}(h1:0<=a*b)(h2:a*b<=255):(PH C Sg T).ari .mul .u8 a b (@hid _ ⟨K⟩)=K (a*b):=b_mul8 h1 h2
theorem p_quo_nn{a b:Int}{K:Tu}(h:0<=a)(hb:0<b)(h2:a<=9223372036854775807):(PH C Sg T).ari .quo .i64 a b (@hid _ ⟨K⟩)=K (a / b):=b_quo_nn h hb h2
theorem p_quo_dv{a b:Int}{K:Tu}(h:a%b=0)(hb:0<b)(h1:-9223372036854775808<=a)(h2:a<=9223372036854775807):(PH C Sg T).ari .quo .i64 a b (@hid _ ⟨K⟩)=K (a / b):=b_quo_dv h hb h1 h2
theorem p_rem_nn{k:TF}{a b:Int}{K:Tu}(h:0<=a)(hb:0<b):(PH C Sg T).ari .rem k a b (@hid _ ⟨K⟩)=K (a%b):=b_rem_nn h hb
theorem p_rem_np{k:TF}{a b:Int}{K:Tu}(h:a<=0)(hb:0<b):(PH C Sg T).ari .rem k a b (@hid _ ⟨K⟩)=K (-((-a)%b)):=b_rem_np h hb
theorem p_and1{a:Int}{K:Tu}:(PH C Sg T).ari .and .i64 a 1 (@hid _ ⟨K⟩)=K (a%2):=b_and1
theorem p_conv{a:Int}{K:Tu}(h1:-9223372036854775808<=a)(h2:a<=9223372036854775807):(PH C Sg T).conv .i64 a (@hid _ ⟨K⟩)=K a:=b_conv h1 h2
theorem p_conv8{a:Int}{K:Tu}(h1:0<=a)(h2:a<=255):(PH C Sg T).conv .u8 a (@hid _ ⟨K⟩)=K a:=b_conv8 h1 h2
theorem p_sel_t{a b:Int}{K:Tu}:(PH C Sg T).sel true a b (@hid _ ⟨K⟩)=K a:=b_sel_t
theorem p_sel_f{a b:Int}{K:Tu}:(PH C Sg T).sel false a b (@hid _ ⟨K⟩)=K b:=b_sel_f
theorem p_opt{α:Type}{x:α}{K:α->Prop}:(PH C Sg T).opt (some x) (@hid _ ⟨K⟩)=K x:=b_opt
theorem p_inB{n:Nat}{i:Int}{K:Unit->Prop}(h1:0<=i)(h2:i<(n:Int)):(PH C Sg T).opt (inB n i) (@hid _ ⟨K⟩)=K ():=b_inB h1 h2
theorem p_join{b:Td}{m:(TB->HL->Prop)->Prop}:(PH C Sg T).join (@hid _ ⟨b⟩) (@hid _ ⟨m⟩)=m (@hid _ ⟨b⟩):=b_join
theorem p_eqs0{K:To}:(PH C Sg T).eqs [] (@hid _ ⟨K⟩)=K true:=b_eqs0
theorem p_eqs_t{a b:Int}{l:List (Lf×Lf)}{K:To}(h:a=b):(PH C Sg T).eqs ((.i a,.i b) :: l) (@hid _ ⟨K⟩)=(PH C Sg T).eqs l (@hid _ ⟨K⟩):=b_eqs_t h
theorem p_eqs_f{a b:Int}{l:List (Lf×Lf)}{K:To}(h:a≠b):(PH C Sg T).eqs ((.i a,.i b) :: l) (@hid _ ⟨K⟩)=K false:=b_eqs_f h
theorem p_it{F:(TB->HL->Prop)->TB->HL->Prop}{n:Nat}{ls:TB}{h:HL}:itH (@hid _ ⟨F⟩) (n+1) ls h=F (itH (@hid _ ⟨F⟩) n) ls h:=b_it
theorem p_eqsb_t{a b:Bool}{l:List (Lf×Lf)}{K:To}(h:a=b):(PH C Sg T).eqs ((.b a,.b b) :: l) (@hid _ ⟨K⟩)=(PH C Sg T).eqs l (@hid _ ⟨K⟩):=b_eqsb_t h
theorem p_eqsb_tf{l:List (Lf×Lf)}{K:To}:(PH C Sg T).eqs ((.b true,.b false) :: l) (@hid _ ⟨K⟩)=K false:=b_eqsb_tf
theorem p_eqsb_ft{l:List (Lf×Lf)}{K:To}:(PH C Sg T).eqs ((.b false,.b true) :: l) (@hid _ ⟨K⟩)=K false:=b_eqsb_ft
theorem p_mul_1{b:Int}{K:Tu}(h1:-9223372036854775808<=b)(h2:b<=9223372036854775807):(PH C Sg T).ari .mul .i64 1 b (@hid _ ⟨K⟩)=K b:=b_mul_1 h1 h2
theorem p_mul_0{b:Int}{K:Tu}:(PH C Sg T).ari .mul .i64 0 b (@hid _ ⟨K⟩)=K 0:=b_mul_0
theorem p_mul_m{b:Int}{K:Tu}(h1:-9223372036854775808<=-b)(h2:-b<=9223372036854775807):(PH C Sg T).ari .mul .i64 (-1) b (@hid _ ⟨K⟩)=K (-b):=b_mul_m h1 h2
theorem p_mul_r1{b:Int}{K:Tu}(h1:-9223372036854775808<=b)(h2:b<=9223372036854775807):(PH C Sg T).ari .mul .i64 b 1 (@hid _ ⟨K⟩)=K b:=b_mul_r1 h1 h2
theorem p_mul_r0{b:Int}{K:Tu}:(PH C Sg T).ari .mul .i64 b 0 (@hid _ ⟨K⟩)=K 0:=b_mul_r0
theorem p_mul_rm{b:Int}{K:Tu}(h1:-9223372036854775808<=-b)(h2:-b<=9223372036854775807):(PH C Sg T).ari .mul .i64 b (-1) (@hid _ ⟨K⟩)=K (-b):=b_mul_rm h1 h2
theorem p_add_0{b:Int}{K:Tu}(h1:-9223372036854775808<=b)(h2:b<=9223372036854775807):(PH C Sg T).ari .add .i64 0 b (@hid _ ⟨K⟩)=K b:=b_add_0 h1 h2
theorem p_add_r0{b:Int}{K:Tu}(h1:-9223372036854775808<=b)(h2:b<=9223372036854775807):(PH C Sg T).ari .add .i64 b 0 (@hid _ ⟨K⟩)=K b:=b_add_r0 h1 h2
theorem p_add_11{K:Tu}:(PH C Sg T).ari .add .i64 1 1 (@hid _ ⟨K⟩)=K 2:=b_add_11
theorem p_quo_1{a:Int}{K:Tu}(h1:-9223372036854775808<=a)(h2:a<=9223372036854775807):(PH C Sg T).ari .quo .i64 a 1 (@hid _ ⟨K⟩)=K a:=b_quo_1 h1 h2
theorem p_hid2{f:Td}{a:TB}{b:HL}:@hid _ ⟨f⟩ a b=f a b:=rfl
theorem p_eqs2_f{a b c d:Int}{K:To}(h:¬(a=c/\b=d)):(PH C Sg T).eqs [(.i a,.i c),(.i b,.i d)] (@hid _ ⟨K⟩)=K false:=by
 show K (bP _)=K false
 have:bP [(.i a,.i c),(.i b,.i d)]=false:=by
  rw[qcv]
  simpa[bP,fK]using h
 rw[this]
theorem p_eqs3_f{a b c d e f:Int}{K:To}(h:¬(a=d/\b=e/\c=f)):(PH C Sg T).eqs [(.i a,.i d),(.i b,.i e),(.i c,.i f)] (@hid _ ⟨K⟩)=K false:=by
 show K (bP _)=K false
 have:bP [(.i a,.i d),(.i b,.i e),(.i c,.i f)]=false:=by
  rw[qcv]
  simpa[bP,fK]using h
 rw[this]
def bc{g:TJ}{ls rs:TB}{h h':HL}{K:Td}(hc:aW C Sg g ls (absH T h) rs (absH T h'))(hk:K rs h'):(PH C Sg T).call g ls h (@hid _ ⟨K⟩):=⟨rs,h',hc,hk⟩
def callv_ct{g:TJ}{sg:Sig}{ls rs:TB}{H H':Ts}(hc:aW C Sg g ls H rs H')(hs:Sg g=some sg)(xs:List S0)(h1:bO xs sg.ps=true)(h2:ca xs=ls) :
  qe C (.func (.func g) #[] #[]) (ai xs) sg.rs H rs H':=by
 obtain⟨sg',xs',ys,c1,c2,c3,c4⟩:=hc
 rw[hs]at c1
 cases c1
 obtain⟨w1,_⟩:=cz c2.1 h1 (c2.2.1.trans h2.symm)
 rw[w1]at c4
 exact⟨ys,c3,.inl ⟨g,#[],#[],rfl,by simpa using c4⟩⟩
def sI{v:Value}{args:Tl}{hs:TG}{rs:TB}{h h':HL}{K:Td}(hc:qe C v args hs (absH T h) rs (absH T h'))(hk:K rs h'):(PH C Sg T).callv v args hs h (@hid _ ⟨K⟩):=⟨rs,h',hc,hk⟩
theorem p_new{o:HObj}{h:HL}{K:Nat->HL->Prop}:(PH C Sg T).new o h (@hid _ ⟨K⟩)=K h.length (h++[.o o]):=rfl
def aL{v:Value}{K:Prop}(h:aY v=true)(hk:K):(PH C Sg T).chk v (@hid _ ⟨K⟩):=⟨h,hk⟩
def gh{f:Hp}{h:HL}{K:Ta}{acts:List Act1}{cs:Tl}(e:f.run (getH T h) h.length=some (acts,cs))(hk:K cs (cm h acts)):(PH C Sg T).heap f h (@hid _ ⟨K⟩):=⟨acts,cs,e,hk⟩
def gi{f:Pk}{h:HL}{K:Te}{cs:Tl}(e:f.run (getH T h)=some cs)(hk:K cs):(PH C Sg T).peek f h (@hid _ ⟨K⟩):=⟨cs,e,hk⟩
def pxs(C:Cfg)(Sg:Tc)(T:Tt):=And.intro @p_hid2 (And.intro (@p_new _ _ C Sg T) (And.intro (@p_unI _ _ C Sg T) (And.intro (@p_unB _ _ C Sg T) (And.intro (@p_unV _ _ C Sg T) (And.intro (@p_un0 _ _ C Sg T) (And.intro (@p_ucI _ _ C Sg T) (And.intro (@p_ucB _ _ C Sg T) (And.intro (@p_ucV _ _ C Sg T) (And.intro (@p_uc0 _ _ C Sg T) (And.intro (@p_cond_t _ _ C Sg T) (And.intro (@p_cond_f _ _ C Sg T) (And.intro (@p_opt _ _ C Sg T) (And.intro (@p_inB _ _ C Sg T) (And.intro (@p_join _ _ C Sg T) (And.intro (@p_sel_t _ _ C Sg T) (And.intro (@p_sel_f _ _ C Sg T) ((@p_it))))))))))))))))))
def pxc(C:Cfg)(Sg:Tc)(T:Tt):=And.intro (@p_lss_t _ _ C Sg T) (And.intro (@p_lss_f _ _ C Sg T) (And.intro (@p_leq_t _ _ C Sg T) (And.intro (@p_leq_f _ _ C Sg T) (And.intro (@p_gtr_t _ _ C Sg T) (And.intro (@p_gtr_f _ _ C Sg T) (And.intro (@p_geq_t _ _ C Sg T) (And.intro (@p_geq_f _ _ C Sg T) (And.intro (@p_eql_t _ _ C Sg T) (And.intro (@p_eql_f _ _ C Sg T) (And.intro (@p_neq_t _ _ C Sg T) (And.intro (@p_neq_f _ _ C Sg T) (And.intro (@p_eqs0 _ _ C Sg T) (And.intro (@p_eqs_t _ _ C Sg T) (And.intro (@p_eqs_f _ _ C Sg T) (And.intro (@p_eqs2_f _ _ C Sg T) (And.intro (@p_eqs3_f _ _ C Sg T) (And.intro (@p_eqsb_t _ _ C Sg T) (And.intro (@p_eqsb_tf _ _ C Sg T) ((@p_eqsb_ft _ _ C Sg T))))))))))))))))))))
def pxa(C:Cfg)(Sg:Tc)(T:Tt):=And.intro (@p_mul_1 _ _ C Sg T) (And.intro (@p_mul_0 _ _ C Sg T) (And.intro (@p_mul_m _ _ C Sg T) (And.intro (@p_mul_r1 _ _ C Sg T) (And.intro (@p_mul_r0 _ _ C Sg T) (And.intro (@p_mul_rm _ _ C Sg T) (And.intro (@p_add_0 _ _ C Sg T) (And.intro (@p_add_r0 _ _ C Sg T) (And.intro (@p_add_11 _ _ C Sg T) (And.intro (@p_quo_1 _ _ C Sg T) (And.intro (@p_add _ _ C Sg T) (And.intro (@p_sub _ _ C Sg T) (And.intro (@p_mul _ _ C Sg T) (And.intro (@p_add8 _ _ C Sg T) (And.intro (@p_sub8 _ _ C Sg T) (And.intro (@p_mul8 _ _ C Sg T) (And.intro (@p_quo_nn _ _ C Sg T) (And.intro (@p_quo_dv _ _ C Sg T) (And.intro (@p_rem_nn _ _ C Sg T) (And.intro (@p_rem_np _ _ C Sg T) (And.intro (@p_and1 _ _ C Sg T) (And.intro (@p_conv _ _ C Sg T) ((@p_conv8 _ _ C Sg T)))))))))))))))))))))))
end
end Sx
namespace Sx
section
variable [Val] [Kno]
variable {C:Cfg} {Sg:Tc} {T:Tt}
end
end Sx
namespace Sx
open Go.Proofs
def hA(A:Alg Prop HL):Alg Prop HL where
 fail:=A.fail
 cond b x y:=A.cond b (@hid _ ⟨x⟩) (@hid _ ⟨y⟩)
 ari o k a b K:=A.ari o k a b (@hid _ ⟨K⟩)
 shf o k a l b K:=A.shf o k a l b (@hid _ ⟨K⟩)
 cmp o a b K:=A.cmp o a b (@hid _ ⟨K⟩)
 eqs l K:=A.eqs l (@hid _ ⟨K⟩)
 conv k a K:=A.conv k a (@hid _ ⟨K⟩)
 sel t a b K:=A.sel t a b (@hid _ ⟨K⟩)
 opt o K:=A.opt o (@hid _ ⟨K⟩)
 chk v x:=A.chk v (@hid _ ⟨x⟩)
 unI l K:=A.unI l (@hid _ ⟨K⟩)
 unB l K:=A.unB l (@hid _ ⟨K⟩)
 unV l K:=A.unV l (@hid _ ⟨K⟩)
 un0 l x:=A.un0 l (@hid _ ⟨x⟩)
 ucI k l K:=A.ucI k l (@hid _ ⟨K⟩)
 ucB l K:=A.ucB l (@hid _ ⟨K⟩)
 ucV l K:=A.ucV l (@hid _ ⟨K⟩)
 uc0 l x:=A.uc0 l (@hid _ ⟨x⟩)
 peek f h K:=A.peek f h (@hid _ ⟨K⟩)
 heap f h K:=A.heap f h (@hid _ ⟨K⟩)
 new o h K:=A.new o h (@hid _ ⟨K⟩)
 call g l h K:=A.call g l h (@hid _ ⟨K⟩)
 callv v a s h K:=A.callv v a s h (@hid _ ⟨K⟩)
 join b m:=A.join (@hid _ ⟨b⟩) (@hid _ ⟨m⟩)
 loop F l h:=A.loop (@hid _ ⟨F⟩) l h
 rfun n v a h K:=A.rfun n v a h (@hid _ ⟨K⟩)
 pend o x y l:=A.pend o (@hid _ ⟨x⟩) (@hid _ ⟨y⟩) l
 lp1 n h K:=A.lp1 n h (@hid _ ⟨K⟩)
 lp2 n o h K:=A.lp2 n o h (@hid _ ⟨K⟩)
def hA_eq(A:Alg Prop HL):hA A=A:=rfl
section
variable {A:Alg Prop HL}
theorem h_cond{b:Bool}{x y:Prop}:(hA A).cond b x y=A.cond b (@hid _ ⟨x⟩) (@hid _ ⟨y⟩):=rfl
theorem h_ari{o:BinOp}{k:TF}{a b:Int}{K:Tu}:(hA A).ari o k a b K=A.ari o k a b (@hid _ ⟨K⟩):=rfl
theorem h_shf{o:BinOp}{k l:TF}{a b:Int}{K:Tu}:(hA A).shf o k a l b K=A.shf o k a l b (@hid _ ⟨K⟩):=rfl
theorem h_cmp{o:BinOp}{a b:Int}{K:To}:(hA A).cmp o a b K=A.cmp o a b (@hid _ ⟨K⟩):=rfl
theorem h_eqs{l:List (Lf×Lf)}{K:To}:(hA A).eqs l K=A.eqs l (@hid _ ⟨K⟩):=rfl
theorem h_conv{k:TF}{a:Int}{K:Tu}:(hA A).conv k a K=A.conv k a (@hid _ ⟨K⟩):=rfl
theorem h_sel{t:Bool}{a b:Int}{K:Tu}:(hA A).sel t a b K=A.sel t a b (@hid _ ⟨K⟩):=rfl
theorem h_opt{α:Type}{o:Option α}{K:α->Prop}:(hA A).opt o K=A.opt o (@hid _ ⟨K⟩):=rfl
theorem h_chk{v:Value}{x:Prop}:(hA A).chk v x=A.chk v (@hid _ ⟨x⟩):=rfl
theorem h_unI{l:TB}{K:Int->TB->Prop}:(hA A).unI l K=A.unI l (@hid _ ⟨K⟩):=rfl
theorem h_unB{l:TB}{K:Bool->TB->Prop}:(hA A).unB l K=A.unB l (@hid _ ⟨K⟩):=rfl
theorem h_unV{l:TB}{K:Value->TB->Prop}:(hA A).unV l K=A.unV l (@hid _ ⟨K⟩):=rfl
theorem h_un0{l:TB}{x:Prop}:(hA A).un0 l x=A.un0 l (@hid _ ⟨x⟩):=rfl
theorem h_ucI{k:TF}{l:Tl}{K:Int->Tl->Prop}:(hA A).ucI k l K=A.ucI k l (@hid _ ⟨K⟩):=rfl
theorem h_ucB{l:Tl}{K:Bool->Tl->Prop}:(hA A).ucB l K=A.ucB l (@hid _ ⟨K⟩):=rfl
theorem h_ucV{l:Tl}{K:Value->Tl->Prop}:(hA A).ucV l K=A.ucV l (@hid _ ⟨K⟩):=rfl
theorem h_uc0{l:Tl}{x:Prop}:(hA A).uc0 l x=A.uc0 l (@hid _ ⟨x⟩):=rfl
theorem h_peek{f:Pk}{h:HL}{K:Te}:(hA A).peek f h K=A.peek f h (@hid _ ⟨K⟩):=rfl
theorem h_heap{f:Hp}{h:HL}{K:Ta}:(hA A).heap f h K=A.heap f h (@hid _ ⟨K⟩):=rfl
theorem h_new{o:HObj}{h:HL}{K:Nat->HL->Prop}:(hA A).new o h K=A.new o h (@hid _ ⟨K⟩):=rfl
theorem h_call{g:TJ}{l:TB}{h:HL}{K:Td}:(hA A).call g l h K=A.call g l h (@hid _ ⟨K⟩):=rfl
theorem h_callv{v:Value}{a:Tl}{s:TG}{h:HL}{K:Td}:(hA A).callv v a s h K=A.callv v a s h (@hid _ ⟨K⟩):=rfl
theorem h_join{b:Td}{m:(TB->HL->Prop)->Prop}:(hA A).join b m=A.join (@hid _ ⟨b⟩) (@hid _ ⟨m⟩):=rfl
theorem h_loop{F:(TB->HL->Prop)->TB->HL->Prop}{l:TB}{h:HL}:(hA A).loop F l h=A.loop (@hid _ ⟨F⟩) l h:=rfl
theorem h_rfun{n:Nat}{v:Value}{a:Tl}{h:HL}{K:Tk->HL->Prop}:(hA A).rfun n v a h K=A.rfun n v a h (@hid _ ⟨K⟩):=rfl
theorem h_pend{o:Tk}{x y:Prop}{l:List (Nat×Prop)}:(hA A).pend o x y l=A.pend o (@hid _ ⟨x⟩) (@hid _ ⟨y⟩) l:=rfl
theorem h_lp1{n:Nat}{h:HL}{K:HL->Prop}:(hA A).lp1 n h K=A.lp1 n h (@hid _ ⟨K⟩):=rfl
theorem h_lp2{n:Nat}{o:Tk}{h:HL}{K:HL->Prop}:(hA A).lp2 n o h K=A.lp2 n o h (@hid _ ⟨K⟩):=rfl
end
def pxh(A:Alg Prop HL):=And.intro (@h_cond A) (And.intro (@h_ari A) (And.intro (@h_shf A) (And.intro (@h_cmp A) (And.intro (@h_eqs A) (And.intro (@h_conv A) (And.intro (@h_sel A) (And.intro (@h_opt A) (And.intro (@h_chk A) (And.intro (@h_unI A) (And.intro (@h_unB A) (And.intro (@h_unV A) (And.intro (@h_un0 A) (And.intro (@h_ucI A) (And.intro (@h_ucB A) (And.intro (@h_ucV A) (And.intro (@h_uc0 A) (And.intro (@h_peek A) (And.intro (@h_heap A) (And.intro (@h_new A) (And.intro (@h_call A) (And.intro (@h_callv A) (And.intro (@h_join A) (And.intro (@h_loop A) (And.intro (@h_rfun A) (And.intro (@h_pend A) (And.intro (@h_lp1 A) ((@h_lp2 A))))))))))))))))))))))))))))
end Sx
end Go.Am
namespace Go.Am
open Sx Go.Proofs
def gl_cell(g:Nat)(vs:Tl)(h:cc.G g=some vs):vs.all aI=true:=by
 unfold cc at h
 simp only at h
 split at h<;>first|(cases h;done)|(obtain rfl:=qan h;kernel_rfl)
abbrev P1:Alg Prop HL:=PH cc aa ab
abbrev Cc(g:TJ)(ls rs:TB):Prop:=∀H,aW cc aa g ls H rs H
def fn_ok{f:TJ}{fn:Fn1}(hi:FnIs (xc f) aa f fn){ls:TB}{H:HL}{K:Td}(hls:gG ls=true)
  (h:af P1 (xc f) aa drN fn ls H K):∃rs H',aW cc aa f ls (absH ab H) rs (absH ab H')/\K rs H':=by
 obtain⟨rs,h',a1,_,a3⟩:=oR (X:=xc f) (holds:=id) (abs:=absH ab) (PH_ok cc aa ab) tB hi (eJ hls) h
 exact⟨rs,h',a1,a3⟩
def fn_okG{f:TJ}{fn:Fn1}(hi:FnIs (xc f) aa f fn){ls:TB}{H:HL}{K:Td}(hls:dB ls)
  (h:af P1 (xc f) aa drN fn ls H K):∃rs H',aW cc aa f ls (absH ab H) rs (absH ab H')/\K rs H':=by
 obtain⟨rs,h',a1,_,a3⟩:=oR (X:=xc f) (holds:=id) (abs:=absH ab) (PH_ok cc aa ab) tB hi hls h
 exact⟨rs,h',a1,a3⟩
def gls0:dB []:=λ_ h=>by cases h
def glsI{n:Int}{ls:TB}(h:dB ls):dB (.i n :: ls):=λl hl=>by
 rcases qap.1 hl with rfl|hl
 ·trivial
 ·exact h l hl
def glsV{x:Value}{ls:TB}(hx:aY x=true)(h:dB ls):dB (.v x :: ls):=λl hl=>by
 rcases qap.1 hl with rfl|hl
 ·exact hx
 ·exact h l hl
abbrev FP:=List Lf->HL->(TB->HL->Prop)->Prop
abbrev UG(k:TJ)(p:FP):Prop:=∀ {ls:TB} {H:HL} {K:Td},gG ls=true->p ls H K->∃rs H',aW cc aa k ls (absH ab H) rs (absH ab H')/\K rs H'
abbrev XG(k:TJ)(p:FP):Prop:=∀ {ls:TB} {H:HL} {K:Td},dB ls->p ls H K->∃rs H',aW cc aa k ls (absH ab H) rs (absH ab H')/\K rs H'
abbrev QG(k:TJ)(p:FP):Prop:=∀ {ls rs:TB},gG ls=true->p ls [] (λrs' _=>rs'=rs)->Cc k ls rs
def uu{k:TJ}{fn:Fn1}{f:{R HT:Type}->Alg R HT->TB->HT->(TB->HT->R)->R}(hi:FnIs (xc k) aa k fn)(e:@f=λR HT A ls h K=>af A (xc k) aa drN fn ls h K):UG k (f (hA P1)):=by
 intro ls H K hls h
 rw[hA_eq,e]at h
 exact fn_ok hi hls h
def xx{k:TJ}{fn:Fn1}{f:{R HT:Type}->Alg R HT->TB->HT->(TB->HT->R)->R}(hi:FnIs (xc k) aa k fn)(e:@f=λR HT A ls h K=>af A (xc k) aa drN fn ls h K):XG k (f (hA P1)):=by
 intro ls H K hls h
 rw[hA_eq,e]at h
 exact fn_okG hi hls h
def qq{k:TJ}{sg:Sig}{p:FP}(hu:UG k p)(hs:aa k=some sg)(hf:sg.plain=true):QG k p:=λhls h=>by
 obtain⟨_,_,h1,rfl⟩:=hu hls h
 exact ct_of mixed si hs hf h1
def qxs:=pxs cc aa ab
def qxh:=And.intro (qeq (hA P1)) (pxh P1)
def qxc:=pxc cc aa ab
def qxa:=pxa cc aa ab
def qXX:=And.intro qxs (And.intro qxc qxa)
def p_x{P Q:Prop}(k:Q)(h:P=Q:=by simp(disch:=omega)only[↓qXX];exact rfl):P:=Eq.mpr h k
def xK{k:TJ}{p:FP}(hx:XG k p){ls R:TB}{H H':HL}(hg:dB ls)(h:p ls H λrs h'=>rs=R/\h'=H'):aW cc aa k ls (absH ab H) R (absH ab H'):=by
 obtain⟨rs,h',h1,rfl,rfl⟩:=hx hg h
 exact h1
def x3:XG 3 (f3 (hA P1)):=xx i3 e3
def u5:UG 5 (f5 (hA P1)):=uu i5 e5
def u8:UG 8 (f8 (hA P1)):=uu i8 e8
def x8:XG 8 (f8 (hA P1)):=xx i8 e8
def x9:XG 9 (f9 (hA P1)):=xx i9 e9
def x10:XG 10 (f10 (hA P1)):=xx i10 e10
def x11:XG 11 (f11 (hA P1)):=xx i11 e11
def x17:XG 17 (f17 (hA P1)):=xx i17 e17
def u18:UG 18 (f18 (hA P1)):=uu i18 e18
def q18:QG 18 (f18 (hA P1)):=qq u18 rfl (by kernel_rfl)
def x20:XG 20 (f20 (hA P1)):=xx i20 e20
def u21:UG 21 (f21 (hA P1)):=uu i21 e21
def q21:QG 21 (f21 (hA P1)):=qq u21 rfl (by kernel_rfl)
def x22:XG 22 (f22 (hA P1)):=xx i22 e22
def x23:XG 23 (f23 (hA P1)):=xx i23 e23
def x26:XG 26 (f26 (hA P1)):=xx i26 e26
def x27:XG 27 (f27 (hA P1)):=xx i27 e27
def x28:XG 28 (f28 (hA P1)):=xx i28 e28
def x29:XG 29 (f29 (hA P1)):=xx i29 e29
def u30:UG 30 (f30 (hA P1)):=uu i30 e30
def q30:QG 30 (f30 (hA P1)):=qq u30 rfl (by kernel_rfl)
def u44:UG 44 (f44 (hA P1)):=uu i44 e44
def q44:QG 44 (f44 (hA P1)):=qq u44 rfl (by kernel_rfl)
def u45:UG 45 (f45 (hA P1)):=uu i45 e45
def q45:QG 45 (f45 (hA P1)):=qq u45 rfl (by kernel_rfl)
def u48:UG 48 (f48 (hA P1)):=uu i48 e48
def q48:QG 48 (f48 (hA P1)):=qq u48 rfl (by kernel_rfl)
def u49:UG 49 (f49 (hA P1)):=uu i49 e49
def q49:QG 49 (f49 (hA P1)):=qq u49 rfl (by kernel_rfl)
def x50:XG 50 (f50 (hA P1)):=xx i50 e50
def x52:XG 52 (f52 (hA P1)):=xx i52 e52
def u53:UG 53 (f53 (hA P1)):=uu i53 e53
def q53:QG 53 (f53 (hA P1)):=qq u53 rfl (by kernel_rfl)
def x55:XG 55 (f55 (hA P1)):=xx i55 e55
def u56:UG 56 (f56 (hA P1)):=uu i56 e56
def q56:QG 56 (f56 (hA P1)):=qq u56 rfl (by kernel_rfl)
def x57:XG 57 (f57 (hA P1)):=xx i57 e57
def u73:UG 73 (f73 (hA P1)):=uu i73 e73
def q73:QG 73 (f73 (hA P1)):=qq u73 rfl (by kernel_rfl)
def x74:XG 74 (f74 (hA P1)):=xx i74 e74
def u75:UG 75 (f75 (hA P1)):=uu i75 e75
def q75:QG 75 (f75 (hA P1)):=qq u75 rfl (by kernel_rfl)
def x76:XG 76 (f76 (hA P1)):=xx i76 e76
def u77:UG 77 (f77 (hA P1)):=uu i77 e77
def q77:QG 77 (f77 (hA P1)):=qq u77 rfl (by kernel_rfl)
def u78:UG 78 (f78 (hA P1)):=uu i78 e78
def q78:QG 78 (f78 (hA P1)):=qq u78 rfl (by kernel_rfl)
def u79:UG 79 (f79 (hA P1)):=uu i79 e79
def q79:QG 79 (f79 (hA P1)):=qq u79 rfl (by kernel_rfl)
def u81:UG 81 (f81 (hA P1)):=uu i81 e81
def q81:QG 81 (f81 (hA P1)):=qq u81 rfl (by kernel_rfl)
def x95:XG 95 (f95 (hA P1)):=xx i95 e95
def u96:UG 96 (f96 (hA P1)):=uu i96 e96
def q96:QG 96 (f96 (hA P1)):=qq u96 rfl (by kernel_rfl)
def u97:UG 97 (f97 (hA P1)):=uu i97 e97
def q97:QG 97 (f97 (hA P1)):=qq u97 rfl (by kernel_rfl)
def u98:UG 98 (f98 (hA P1)):=uu i98 e98
def q98:QG 98 (f98 (hA P1)):=qq u98 rfl (by kernel_rfl)
def u99:UG 99 (f99 (hA P1)):=uu i99 e99
def q99:QG 99 (f99 (hA P1)):=qq u99 rfl (by kernel_rfl)
def u100:UG 100 (f100 (hA P1)):=uu i100 e100
def q100:QG 100 (f100 (hA P1)):=qq u100 rfl (by kernel_rfl)
def u101:UG 101 (f101 (hA P1)):=uu i101 e101
def q101:QG 101 (f101 (hA P1)):=qq u101 rfl (by kernel_rfl)
def x102:XG 102 (f102 (hA P1)):=xx i102 e102
def x103:XG 103 (f103 (hA P1)):=xx i103 e103
def u105:UG 105 (f105 (hA P1)):=uu i105 e105
def q105:QG 105 (f105 (hA P1)):=qq u105 rfl (by kernel_rfl)
def u106:UG 106 (f106 (hA P1)):=uu i106 e106
def q106:QG 106 (f106 (hA P1)):=qq u106 rfl (by kernel_rfl)
def u108:UG 108 (f108 (hA P1)):=uu i108 e108
def q108:QG 108 (f108 (hA P1)):=qq u108 rfl (by kernel_rfl)
def u109:UG 109 (f109 (hA P1)):=uu i109 e109
def q109:QG 109 (f109 (hA P1)):=qq u109 rfl (by kernel_rfl)
def u112:UG 112 (f112 (hA P1)):=uu i112 e112
def q112:QG 112 (f112 (hA P1)):=qq u112 rfl (by kernel_rfl)
def x129:XG 129 (f129 (hA P1)):=xx i129 e129
def u132:UG 132 (f132 (hA P1)):=uu i132 e132
def q132:QG 132 (f132 (hA P1)):=qq u132 rfl (by kernel_rfl)
def u133:UG 133 (f133 (hA P1)):=uu i133 e133
def q133:QG 133 (f133 (hA P1)):=qq u133 rfl (by kernel_rfl)
def u134:UG 134 (f134 (hA P1)):=uu i134 e134
def q134:QG 134 (f134 (hA P1)):=qq u134 rfl (by kernel_rfl)
def u166:UG 166 (f166 (hA P1)):=uu i166 e166
def q166:QG 166 (f166 (hA P1)):=qq u166 rfl (by kernel_rfl)
end Go.Am
namespace Go.Am
namespace Sx
def kD{vs:Tl}{off n:Nat}{cs:Tl}:cut vs off n=some cs↔off+n<=vs.length/\(vs.drop off).take n=cs:=by
 unfold cut
 split
 next h=>simp[h]
 next h=>simp[h]
def cut_len{vs:Tl}{off n:Nat}{cs:Tl}(h:cut vs off n=some cs):cs.length=n:=by
 obtain⟨h1,rfl⟩:=kD.1 h
 rw[qa0,qbT];omega
def rX{vs:Tl}{off n:Nat}{cs:Tl}(h:cut vs off n=some cs){o k:Nat}(hk:o+k<=n):cut vs (off+o) k=some ((cs.drop o).take k):=by
 obtain⟨h1,rfl⟩:=kD.1 h
 refine kD.2 ⟨by omega,?_⟩
 rw[List.drop_take,qbD,List.take_take,qbK (by omega)]
def cut_all{vs:Tl}{n:Nat}(h:vs.length=n):cut vs 0 n=some vs:=kD.2 ⟨by omega,by rw[qbq,qaJ (by omega)]⟩
def Pre(h0 h:HL):Prop:=∃G,h=h0++G
def Pre.refl(h:HL):Pre h h:=⟨[],by simp⟩
def Pre.trans{a b c:HL}(h:Pre a b)(k:Pre b c):Pre a c:=by
 obtain⟨G,rfl⟩:=h
 obtain⟨G',rfl⟩:=k
 exact⟨G++G',by simp⟩
def Pre.app{a b:HL}(h:Pre a b)(G:HL):Pre a (b++G):=h.trans ⟨G,rfl⟩
def Pre.len{a b:HL}(h:Pre a b):a.length<=b.length:=by obtain⟨G,rfl⟩:=h;simp
def Pre.get{a b:HL}(h:Pre a b){i:Nat}{o:HO}(hi:a[i]?=some o):b[i]?=some o:=by
 obtain⟨G,rfl⟩:=h
 have:i<a.length:=by
  rcases qaC i a.length with h|h
  ·exact h
  ·rw[qae h]at hi;cases hi
 rw[qaf this];exact hi
def Pre.set{a b:HL}(h:Pre a b){i:Nat}(hi:a.length<=i)(o:HO):Pre a (b.set i o):=by
 obtain⟨G,rfl⟩:=h
 rw[qbW _ _ hi]
 exact⟨_,rfl⟩
def Ptr(h:HL)(p:Value)(cs:Tl):Prop:=∃id o vs e rw,p = .pointer (some ⟨id,o,none⟩)/\h[id]?=some (.o (.cells vs e rw))/\cut vs o cs.length=some cs
def SlC(h:HL)(v:Value)(e n:Nat)(cs:Tl):Prop:=
 cs.length=n*e/\((v = .slice none 0 0/\n=0)∨∃id off cx vs rw,v = .slice (some ⟨id,off,tag e⟩) n cx/\h[id]?=some (.o (.cells vs e rw))/\cut vs off (n*e)=some cs)
def LsH{α:Type}(h:HL)(v:Value)(e:Nat)(enc:α->Tl)(l:List α):Prop:=(∀a∈l,(enc a).length=e)/\SlC h v e l.length (l.flatMap enc)
def Mk(n0:Nat)(h:HL)(v:Value)(e n:Nat)(cs:Tl):Prop:=
 cs.length=n*e/\((v = .slice none 0 0/\n=0)∨∃id,n0<=id/\v = .slice (some ⟨id,0,tag e⟩) n 0/\h[id]?=some (.o (.cells cs e true)))
def MkL{α:Type}(n0:Nat)(h:HL)(v:Value)(e:Nat)(enc:α->Tl)(l:List α):Prop:=(∀a∈l,(enc a).length=e)/\Mk n0 h v e l.length (l.flatMap enc)
def blk:Value->Option Nat
 | .slice (some a) _ _=>some a.block
 |_=>none
def Ptr.keep{h h':HL}{p:Value}{cs:Tl}(hp:Ptr h p cs)(hk:∀(j:Nat) o,h[j]?=some o->h'[j]?=some o):Ptr h' p cs:=by
 obtain⟨id,o,vs,e,rw',h1,h2,h3⟩:=hp
 exact⟨id,o,vs,e,rw',h1,hk _ _ h2,h3⟩
def SlC.keep{h h':HL}{v:Value}{e n:Nat}{cs:Tl}(hs:SlC h v e n cs)(hk:∀(j:Nat) o,h[j]?=some o->blk v=some j->h'[j]?=some o):SlC h' v e n cs:=by
 obtain⟨h0,h1|⟨id,off,cx,vs,rw',rfl,h2,h3⟩⟩:=hs
 ·exact⟨h0,.inl h1⟩
 ·exact⟨h0,.inr ⟨id,off,cx,vs,rw',rfl,hk _ _ h2 rfl,h3⟩⟩
def SlC.pre{h h':HL}{v:Value}{e n:Nat}{cs:Tl}(hs:SlC h v e n cs)(hp:Pre h h'):SlC h' v e n cs:=hs.keep λ_ _ h _=>hp.get h
def LsH.keep{α:Type}{h h':HL}{v:Value}{e:Nat}{enc:α->Tl}{l:List α}(hs:LsH h v e enc l)(hk:∀(j:Nat) o,h[j]?=some o->blk v=some j->h'[j]?=some o):LsH h' v e enc l:=⟨hs.1,hs.2.keep hk⟩
def LsH.pre{α:Type}{h h':HL}{v:Value}{e:Nat}{enc:α->Tl}{l:List α}(hs:LsH h v e enc l)(hp:Pre h h'):LsH h' v e enc l:=⟨hs.1,hs.2.pre hp⟩
def SlC.len{h:HL}{v:Value}{e n:Nat}{cs:Tl}(hs:SlC h v e n cs):lenS v=some (.ofNat n):=by
 obtain⟨_,⟨rfl,rfl⟩|⟨id,off,cx,vs,rw',rfl,_⟩⟩:=hs<;>rfl
def LsH.len{α:Type}{h:HL}{v:Value}{e:Nat}{enc:α->Tl}{l:List α}(hs:LsH h v e enc l):lenS v=some (.ofNat l.length):=hs.2.len
def Mk.sl{n0:Nat}{h:HL}{v:Value}{e n:Nat}{cs:Tl}(hs:Mk n0 h v e n cs):SlC h v e n cs:=by
 obtain⟨h0,h1|⟨id,_,rfl,h2⟩⟩:=hs
 ·exact⟨h0,.inl h1⟩
 ·exact⟨h0,.inr ⟨id,0,0,cs,true,rfl,h2,cut_all h0⟩⟩
def MkL.ls{α:Type}{n0:Nat}{h:HL}{v:Value}{e:Nat}{enc:α->Tl}{l:List α}(hs:MkL n0 h v e enc l):LsH h v e enc l:=⟨hs.1,hs.2.sl⟩
def Mk.nil(n0:Nat)(h:HL)(e:Nat):Mk n0 h (.slice none 0 0) e 0 []:=⟨by simp,.inl ⟨rfl,rfl⟩⟩
def MkL.nil{α:Type}(n0:Nat)(h:HL)(e:Nat)(enc:α->Tl):MkL n0 h (.slice none 0 0) e enc []:=⟨by simp,Mk.nil n0 h e⟩
def LsH.nil{α:Type}(h:HL)(e:Nat)(enc:α->Tl):LsH h (.slice none 0 0) e enc []:=(MkL.nil 0 h e enc).ls
def Mk.keep{n0:Nat}{h h':HL}{v:Value}{e n:Nat}{cs:Tl}(hs:Mk n0 h v e n cs)(hk:∀(j:Nat) o,h[j]?=some o->blk v=some j->h'[j]?=some o):Mk n0 h' v e n cs:=by
 obtain⟨h0,h1|⟨id,h1,rfl,h2⟩⟩:=hs
 ·exact⟨h0,.inl h1⟩
 ·exact⟨h0,.inr ⟨id,h1,rfl,hk _ _ h2 rfl⟩⟩
def Mk.pre{n0:Nat}{h h':HL}{v:Value}{e n:Nat}{cs:Tl}(hs:Mk n0 h v e n cs)(hp:Pre h h'):Mk n0 h' v e n cs:=hs.keep λ_ _ h _=>hp.get h
def MkL.keep{α:Type}{n0:Nat}{h h':HL}{v:Value}{e:Nat}{enc:α->Tl}{l:List α}(hs:MkL n0 h v e enc l)(hk:∀(j:Nat) o,h[j]?=some o->blk v=some j->h'[j]?=some o):MkL n0 h' v e enc l:=⟨hs.1,hs.2.keep hk⟩
def MkL.pre{α:Type}{n0:Nat}{h h':HL}{v:Value}{e:Nat}{enc:α->Tl}{l:List α}(hs:MkL n0 h v e enc l)(hp:Pre h h'):MkL n0 h' v e enc l:=⟨hs.1,hs.2.pre hp⟩
def dc{α:Type}{e:Nat}{enc:α->Tl}:∀ {l:List α},(∀a∈l,(enc a).length=e)->(l.flatMap enc).length=l.length*e
 | [],_=>by simp
 |a :: l,h=>by
  rw[qbC,qaG,h a qaQ,dc λb hb=>h b (qao _ hb),qaP,qbk,qb8,Nat.add_comm]
def nq{α:Type}{e:Nat}{enc:α->Tl}:∀ {l:List α},(∀a∈l,(enc a).length=e)->∀ {i:Nat} {a:α},l[i]?=some a->((l.flatMap enc).drop (i*e)).take e=enc a
 |b :: l,h,0,a,hi=>by
  simp only[qa7,qar]at hi
  subst hi
  have:=h b qaQ
  rw[qbP,qbq,qbC,qcG (by omega),qaJ (by omega)]
 |b :: l,h,i+1,a,hi=>by
  simp only[qa6]at hi
  have hb:=h b qaQ
  have:=nq (λb hb=>h b (qao _ hb)) hi
  rw[qbC,qbk,qb8,←this]
  have e1:i*e+e=(enc b).length+i*e:=by omega
  rw[e1,qcE,qbS (by omega),qaw,qcu]
 | [],_,_,_,hi=>by simp at hi
def SlC.at{h:HL}{v:Value}{e n:Nat}{cs:Tl}(hs:SlC h v e n cs){i:Nat}(hi:i<n):∃p,idS e v (.ofNat i)=some p/\Ptr h p ((cs.drop (i*e)).take e):=by
 obtain⟨h0,⟨rfl,rfl⟩|⟨id,off,cx,vs,rw',rfl,h2,h3⟩⟩:=hs
 ·omega
 ·have hle:i*e+e<=n*e:=by
   have:=qbe e (show i+1<=n by omega)
   rw[qbk,qb8]at this;exact this
  refine⟨.pointer (some ⟨id,off+i*e,none⟩),?_,id,off+i*e,vs,e,rw',rfl,h2,?_⟩
  ·rw[idS_eq]
   have hh:0<=Int.ofNat i/\Int.ofNat i<(n:Int):=⟨qaL i,by show(i:Int)<n;omega⟩
   simp only[qdq hh]
   have:¬(tag e=some 1):=by simp[tag]
   simp only[qdr this]
   rfl
  ·have hc:=rX h3 hle
   have hl:=cut_len hc
   rw[hl];exact hc
def LsH.at{α:Type}{h:HL}{v:Value}{e:Nat}{enc:α->Tl}{l:List α}(hs:LsH h v e enc l){i:Nat}{a:α}(hi:l[i]?=some a):∃p,idS e v (.ofNat i)=some p/\Ptr h p (enc a):=by
 have hlt:i<l.length:=by
  rcases qaC i l.length with h|h
  ·exact h
  ·rw[qae h]at hi;cases hi
 obtain⟨p,h1,h2⟩:=hs.2.at hlt
 rw[nq hs.1 hi]at h2
 exact⟨p,h1,h2⟩
def Ptr.fd{h:HL}{p:Value}{cs:Tl}(hp:Ptr h p cs)(o k:Nat)(hk:o+k<=cs.length):∃p',fdP o p=some p'/\Ptr h p' ((cs.drop o).take k):=by
 obtain⟨id,o',vs,e,rw',rfl,h2,h3⟩:=hp
 refine⟨_,rfl,id,o'+o,vs,e,rw',rfl,h2,?_⟩
 have hc:=rX h3 hk
 rw[cut_len hc];exact hc
section
variable [Val] [Kno]
def cS{T:Tt}{h:HL}{i:Nat}{o:HObj}(hi:h[i]?=some (.o o)):getH T h i=some o:=by
 unfold getH;rw[hi];rfl
def Ptr.ld{T:Tt}{h:HL}{p:Value}{cs:Tl}(hp:Ptr h p cs){n:Nat}(hn:cs.length=n):(Pk.ld n p).run (getH T h)=some cs:=by
 obtain⟨id,o,vs,e,rw',rfl,h2,h3⟩:=hp
 subst hn
 show(match (none:Tp)with|none=>(fA (getH T h) id).bind λvs=>cut vs o cs.length|some _=>none)=_
 unfold fA
 rw[cS h2]
 exact h3
def Ptr.lg{C:Cfg}{T:Tt}{h:HL}{p:Value}{cs:Tl}(hp:Ptr h p cs){n:Nat}(hn:cs.length=n):(Pk.lg C n p).run (getH T h)=some cs:=by
 obtain⟨id,o,vs,e,rw',rfl,h2,h3⟩:=hp
 subst hn
 show(fA (getH T h) id).bind (λvs=>cut vs o cs.length)=_
 unfold fA
 rw[cS h2]
 exact h3
def slG_sl{C:Cfg}{T:Tt}{h:HL}{v:Value}{e n:Nat}{cs:Tl}(hs:SlC h v e n cs):slG C e (getH T h) v=some (cs,n):=by
 obtain⟨h0,⟨rfl,rfl⟩|⟨id,off,cx,vs,rw',rfl,h2,h3⟩⟩:=hs
 ·simp only[qbP,qa9]at h0
  subst h0;rfl
 ·unfold slG
  have:¬(tag e=some 1):=by simp[tag]
  simp only[qdr this,if_true]
  rw[cS h2]
  simp only[if_true]
  rw[h3];rfl
variable {C:Cfg} {Sg:Tc} {T:Tt}
def ap_mk{n0:Nat}{h0 h:HL}{v x:Value}{e n k bytes:Nat}{cs new:Tl}(hp:Pre h0 h)(h0n:h0.length=n0)(hm:Mk n0 h v e n cs)(hx:SlC h x e k new)(hs:ch (n+k) bytes=true) :
  ∃acts v',(Hp.ap C e bytes v x).run (getH T h) h.length=some (acts,[v'])/\Pre h0 (cm h acts)/\Mk n0 (cm h acts) v' e (n+k) (cs++new)/\
   (∀(j:Nat) o,h[j]?=some o->blk v≠some j->(cm h acts)[j]?=some o)/\(blk v'=blk v∨blk v'=none∨∃j,blk v'=some j/\h.length<=j):=by
 obtain⟨c0,hm⟩:=hm
 have c1:=hx.1
 have c3:(cs++new).length=(n+k)*e:=by rw[qaG,c0,c1,qbk]
 have hslg:=slG_sl (C:=C) (T:=T) hx
 rcases hm with⟨rfl,rfl⟩|⟨id,hid,rfl,hg⟩
 ·simp only[qbP,qa9]at c0
  subst c0
  by_cases hk:k=0
  ·subst hk
   simp only[qbP,qa9]at c1
   subst c1
   refine⟨[],.slice none 0 0,?_,hp,Mk.nil _ _ _,λj o hj _=>hj,.inl rfl⟩
   show apG C e bytes (.slice none 0 0) x (getH T h) h.length=_
   unfold apG
   rw[hslg]
   rfl
  ·refine⟨[.push (.cells new e true)],.slice (some ⟨h.length,0,tag e⟩) k 0,?_,hp.app _,?_,λj o hj _=>?_,.inr (.inr ⟨h.length,rfl,qam _⟩)⟩
   ·show apG C e bytes (.slice none 0 0) x (getH T h) h.length=_
    unfold apG
    rw[hslg]
    simp only[qdr hk]
    rw[qaF]at hs
    rw[qdq hs]
   ·rw[qaF,qaw]
    refine⟨by simpa using c1,.inr ⟨h.length,by have:=hp.len;omega,rfl,?_⟩⟩
    simp[cm,Act1.onH]
   ·exact Pre.get ⟨_,rfl⟩ hj
 ·by_cases hk:k=0
  ·subst hk
   simp only[qbP,qa9]at c1
   subst c1
   refine⟨[],.slice (some ⟨id,0,tag e⟩) n 0,?_,hp,⟨c3,.inr ⟨id,hid,rfl,by simpa[cm]using hg⟩⟩,λj o hj _=>hj,.inl rfl⟩
   show apG C e bytes (.slice (some ⟨id,0,tag e⟩) n 0) x (getH T h) h.length=_
   unfold apG
   rw[hslg]
   simp only[ne_eq,not_true_eq_false,if_false]
   rw[cS hg]
   simp only[ne_eq,not_true_eq_false,if_false]
   rw[cut_all c0]
   rfl
  ·have hlt:id<h.length:=by
    rcases qaC id h.length with h1|h1
    ·exact h1
    ·rw[qae h1]at hg;cases hg
   refine⟨[.set id .dead,.push (.cells (cs++new) e true)],.slice (some ⟨h.length,0,tag e⟩) (n+k) 0,?_,?_,?_,λj o hj hb=>?_,.inr (.inr ⟨h.length,rfl,qam _⟩)⟩
   ·show apG C e bytes (.slice (some ⟨id,0,tag e⟩) n 0) x (getH T h) h.length=_
    unfold apG
    rw[hslg]
    simp only[ne_eq,not_true_eq_false,if_false]
    rw[cS hg]
    simp only[ne_eq,not_true_eq_false,if_false]
    rw[cut_all c0]
    simp only[qdr hk,qc1]
    rw[qdq hs]
   ·exact(hp.set (by omega) _).app _
   ·refine⟨c3,.inr ⟨h.length,by have:=hp.len;omega,rfl,?_⟩⟩
    simp[cm,Act1.onH]
   ·have hne:id≠j:=λhh=>hb (by subst hh;rfl)
    refine Pre.get (a:=h.set id (.o .dead)) ⟨_,rfl⟩ ?_
    rw[qav hne];exact hj
def p_app1{α:Type}{h0 h:HL}{v:Value}{e bytes:Nat}{enc:α->Tl}{l:List α}{a:α}{K:Ta}{new:Tl}{m:Nat}{sp:Tp}(hp:Pre h0 h)(hm:MkL h0.length h v e enc l)(hn:new=enc a)(hl:(enc a).length=e)(hmm:m=h.length)(hsp:sp=some (e+10))
  (hs:ch (l.length+1) bytes=true)
  (hk:∀v' h',Pre h0 h'->MkL h0.length h' v' e enc (l++[a])->aY v'=true->(∀(j:Nat) o,h[j]?=some o->blk v≠some j->h'[j]?=some o)->(blk v'=blk v∨∃j,blk v'=some j/\h.length<=j)->K [v'] h') :
  (PH C Sg T).heap (.ap C e bytes v (.slice (some ⟨m,0,sp⟩) 1 2)) (h++[.o (.cells new e true)]) (@hid _ ⟨K⟩):=by
 subst hn hmm hsp
 have hx:SlC (h++[HO.o (.cells (enc a) e true)]) (.slice (some ⟨h.length,0,tag e⟩) 1 2) e 1 (enc a):=by
  refine⟨by omega,.inr ⟨h.length,0,2,enc a,true,rfl,by simp,cut_all (by omega)⟩⟩
 have hm':Mk h0.length (h++[HO.o (.cells (enc a) e true)]) v e l.length (l.flatMap enc):=hm.2.pre ⟨_,rfl⟩
 obtain⟨acts,v',a1,a2,a3,a4,a5⟩:=ap_mk (C:=C) (T:=T) (hp.app [HO.o (.cells (enc a) e true)]) rfl hm' hx hs
 refine gh a1 (hk v' _ a2 ⟨?_,?_⟩ ?_ ?_ ?_)
 ·intro b hb
  rcases qaH.1 hb with hb|hb
  ·exact hm.1 b hb
  ·simp only[qay]at hb;subst hb;exact hl
 ·rw[List.flatMap_append,qaG]
  simpa using a3
 ·obtain⟨_,⟨rfl,_⟩|⟨id,_,rfl,_⟩⟩:=a3
  ·rfl
  ·simp[aY,noLoc,bg,co,bF,aZ,aB,tag]
 ·intro j o hj hb
  exact a4 j o (Pre.get ⟨_,rfl⟩ hj) hb
 ·rcases a5 with h1|h1|⟨j,h1,h2⟩
  ·exact .inl h1
  ·obtain⟨q1,⟨_,q2⟩|⟨id,_,rfl,_⟩⟩:=a3
   ·omega
   ·cases h1
  ·exact .inr ⟨j,h1,by simp at h2;omega⟩
end
end Sx
namespace Sx
def Ptr.good{h:HL}{p:Value}{cs:Tl}(hp:Ptr h p cs):aY p=true:=by
 obtain⟨id,o,vs,e,rw',rfl,_⟩:=hp
 simp[aY,noLoc,bg,co,bF,aZ,aB]
def SlC.good{h:HL}{v:Value}{e n:Nat}{cs:Tl}(hs:SlC h v e n cs):aY v=true:=by
 obtain⟨_,⟨rfl,_⟩|⟨id,off,cx,vs,rw',rfl,_⟩⟩:=hs
 ·rfl
 ·simp[aY,noLoc,bg,co,bF,aZ,aB,tag]
def LsH.good{α:Type}{h:HL}{v:Value}{e:Nat}{enc:α->Tl}{l:List α}(hs:LsH h v e enc l):aY v=true:=hs.2.good
section
variable [Val] [Kno] {C:Cfg} {Sg:Tc} {T:Tt}
def hidL{F:(TB->HL->Prop)->TB->HL->Prop}{s:Td}{l:TB}{h:HL}(hf:F s l h):@hid _ ⟨F⟩ s l h:=hf
def bm{σ:Type}{F:(TB->HL->Prop)->TB->HL->Prop}(n:Nat)(S:Nat->σ->TB)(HP:Nat->σ->HL)(Inv:Nat->σ->Prop){j0:Nat}{s0:σ}{ls:TB}{h:HL}(hls:ls=S j0 s0)(hh:h=HP j0 s0)(hj:j0<=n)(hi:Inv j0 s0)
  (step:∀j s,j<=n->Inv j s->∀self:TB->HL->Prop,(∀s',j<n->Inv (j+1) s'->self (S (j+1) s') (HP (j+1) s'))->F self (S j s) (HP j s)):(PH C Sg T).loop (@hid _ ⟨F⟩) ls h:=by
 subst hls hh
 refine gf (m:=n - j0) (λm ls h=>∃j s,ls=S j s/\h=HP j s/\j<=n/\m=n - j/\Inv j s) ⟨j0,s0,rfl,rfl,hj,rfl,hi⟩ ?_
 rintro m ls h ⟨j,s,rfl,rfl,hj,rfl,hi⟩ self hself
 exact hidL (step j s hj hi self λs' hlt hi'=>hself (n - (j+1)) _ _ (by omega) ⟨j+1,s',rfl,rfl,by omega,rfl,hi'⟩)
def dA{F:(TB->HL->Prop)->TB->HL->Prop}(n:Nat)(Inv:Nat->Prop){j0:Nat}{h:HL}{ls:TB}(hls:ls=[.i (Int.ofNat j0)])(hj:j0<=n)(hi:Inv j0)
  (step:∀j,j<=n->Inv j->∀self:TB->HL->Prop,(j<n->Inv (j+1)->self [.i (Int.ofNat j+1)] h)->F self [.i (Int.ofNat j)] h):(PH C Sg T).loop (@hid _ ⟨F⟩) ls h:=
 bm (σ:=Unit) n (λj _=>[.i (Int.ofNat j)]) (λ_ _=>h) (λj _=>Inv j) (s0:=()) hls rfl hj hi λj _ hj hi self hs=>step j hj hi self (λa b=>hs () a b)
def cC{α:Type}{h:HL}{v:Value}{e:Nat}{enc:α->Tl}{l:List α}{K:Tu}(hs:LsH h v e enc l)(hk:K (Int.ofNat l.length)):(PH C Sg T).opt (lenS v) (@hid _ ⟨K⟩):=aE hs.len hk
def bB{α:Type}{h:HL}{v:Value}{e:Nat}{enc:α->Tl}{l:List α}{i:Nat}{a:α}{n:Int}{K:Te}(hs:LsH h v e enc l)(hn:n=Int.ofNat i)(hi:l[i]?=some a)(hk:K (enc a)) :
  (PH C Sg T).opt (idS e v n) (@hid _ ⟨λx=>(PH C Sg T).peek (.lg C e x) h (@hid _ ⟨K⟩)⟩):=by
 subst hn
 obtain⟨p,h1,h2⟩:=hs.at hi
 exact aE h1 (gi (h2.lg (hs.1 a (qaq hi))) hk)
def cr{α:Type}{h:HL}{v:Value}{e:Nat}{enc:α->Tl}{l:List α}{i:Nat}{a:α}{n:Int}{o k:Nat}{cs:Tl}{K:Te}(hs:LsH h v e enc l)(hn:n=Int.ofNat i)(hi:l[i]?=some a)(hcs:cs=((enc a).drop o).take k)(hok:o+k<=e)(hk:K cs) :
  (PH C Sg T).opt (idS e v n) (@hid _ ⟨λx=>(PH C Sg T).opt (fdP o x) (@hid _ ⟨λy=>(PH C Sg T).chk y (@hid _ ⟨(PH C Sg T).peek (.lg C k y) h (@hid _ ⟨K⟩)⟩)⟩)⟩):=by
 subst hn hcs
 obtain⟨p,h1,h2⟩:=hs.at hi
 have he:=hs.1 a (qaq hi)
 have hok:o+k<=(enc a).length:=by omega
 have hlen:(((enc a).drop o).take k).length=k:=by rw[qa0,qbT];omega
 obtain⟨q,h3,h4⟩:=h2.fd o k hok
 refine aE h1 (aE h3 ?_)
 show aY q=true/\_
 exact⟨h4.good,gi (h4.lg hlen) hk⟩
end
end Sx
namespace Sx
section
variable [Val]
end
section
variable [Val]
end
end Sx
end Go.Am
namespace Go.Am
open Sx Go.Proofs
def known_val{g n:Nat}{ls rs:TB}{sg:Sig}(hs:aa g=some sg)(hp:sg.plain=true)(hg:gG ls=true)(h:runF n (.f g) ls .empty tell=some rs):∀H,aW cc aa g ls H rs H:=by
 obtain⟨rs',h',a1,a2⟩:=(runF_ok n).f g ls .empty tell rs (eJ hg) h
 rw[tell_eq]at a2
 cases a2
 exact uv g sg ls _ _ hs hp a1
def isAns(rs':TB):Option (TB)->Bool:=λo=>@Option.rec _ (λ_=>Bool) false (λrs=>eqLs rs rs') o
def iA{g n:Nat}{ls rs:TB}{sg:Sig}(hs:aa g=some sg)(hp:sg.plain=true)(hg:gG ls=true)(h:isAns rs (runF n (.f g) ls .empty tell)=true):∀H,aW cc aa g ls H rs H:=by
 cases e:runF n (.f g) ls .empty tell with
 |none=>rw[e]at h;cases h
 |some rs'=>
  rw[e]at h
  have h:eqLs rs' rs=true:=h
  rw[nl h]at e
  exact known_val hs hp hg e
end Go.Am
namespace Go.Am
namespace Sx
section
variable [Val] [Kno] {C:Cfg} {Sg:Tc} {T:Tt}
def bA{j:Nat}{K:Tu}(h:j<=4294967296):(PH C Sg T).ari .add .i64 (Int.ofNat j) 1 (@hid _ ⟨K⟩)=K (Int.ofNat j+1):=
 p_add (by show -9223372036854775808<=(j:Int)+1;omega) (by show(j:Int)+1<=9223372036854775807;omega)
def iD{j:Nat}{K:Tu}(h1:1<=j)(h:j<=4294967296):(PH C Sg T).ari .sub .i64 (Int.ofNat j) 1 (@hid _ ⟨K⟩)=K (Int.ofNat (j - 1)):=by
 rw[p_sub (by show -9223372036854775808<=(j:Int) - 1;omega) (by show(j:Int) - 1<=9223372036854775807;omega)]
 congr 1
 show(j:Int) - 1=((j - 1:Nat):Int)
 omega
def bb{j n:Nat}{K:To}(h:j<n):(PH C Sg T).cmp .lss (Int.ofNat j) (Int.ofNat n) (@hid _ ⟨K⟩)=K true:=p_lss_t (by show(j:Int)<n;omega)
def ba{j n:Nat}{K:To}(h:n<=j):(PH C Sg T).cmp .lss (Int.ofNat j) (Int.ofNat n) (@hid _ ⟨K⟩)=K false:=p_lss_f (by show(n:Int)<=j;omega)
end
def cf{α:Type}{l:List α}{i:Nat}{a:α}(h:l[i]?=some a):i<l.length:=by
 rcases qaC i l.length with h1|h1
 ·exact h1
 ·rw[qae h1]at h;cases h
def cM{α:Type}{l:List α}{i:Nat}(h:i<l.length):∃a,l[i]?=some a:=⟨_,qas h⟩
end Sx
end Go.Am
namespace Go.Am
open Sx
def mA(t:Nat):Int:=match t with
 |0=>1|1=>0|2=>-1|3=>0|4=>-1|5=>0|6=>1|_=>0
def mB(t:Nat):Int:=match t with
 |0=>0|1=>-1|2=>0|3=>1|4=>0|5=>-1|6=>0|_=>1
def mC(t:Nat):Int:=match t with
 |0=>0|1=>1|2=>0|3=>-1|4=>0|5=>-1|6=>0|_=>1
def mD(t:Nat):Int:=match t with
 |0=>1|1=>0|2=>-1|3=>0|4=>1|5=>0|6=>-1|_=>0
def mulT(s t:Nat):Nat:=if s<4 then(if t<4 then(s+t)%4 else 4+(t+4 - s)%4)else(if t<4 then 4+(s+t)%4 else(t+8 - s)%4)
abbrev Mv:=Nat×Int×Int
def bf(a b:Mv):Mv:=(mulT a.1 b.1,mA b.1*a.2.1+mB b.1*a.2.2+b.2.1,mC b.1*a.2.1+mD b.1*a.2.2+b.2.2)
def idM:Mv:=(0,0,0)
def okM(n:Int)(m:Mv):Prop:=m.1<8/\-n<=m.2.1/\m.2.1<=n/\-n<=m.2.2/\m.2.2<=n/\(m.2.1+m.2.2)%2=0
def t8{t:Nat}(h:t<8):t=0∨t=1∨t=2∨t=3∨t=4∨t=5∨t=6∨t=7:=by omega
def sz{s t:Nat}:mulT s t<8:=by
 unfold mulT
 repeat' split
 all_goals omega
def vA{a b c:Nat}(ha:a<8)(hb:b<8)(hc:c<8):mulT (mulT a b) c=mulT a (mulT b c):=by
 have key:((List.range 8).all λa=>(List.range 8).all λb=>(List.range 8).all λc=>mulT (mulT a b) c==mulT a (mulT b c))=true:=by decide +kernel
 have h1:=qab.1 key a (qah.2 ha)
 have h2:=qab.1 h1 b (qah.2 hb)
 have h3:=qab.1 h2 c (qah.2 hc)
 simpa using h3
def hJ{a b c:Mv}(ha:a.1<8)(hb:b.1<8)(hc:c.1<8):bf (bf a b) c=bf a (bf b c):=by
 obtain⟨at',ax,ay⟩:=a
 obtain⟨bt,bx,by'⟩:=b
 obtain⟨ct,cx,cy⟩:=c
 simp only at ha hb hc
 unfold bf
 refine qc4 (vA ha hb hc) ?_
 simp only
 clear ha
 rcases t8 hb with rfl|rfl|rfl|rfl|rfl|rfl|rfl|rfl<;>rcases t8 hc with rfl|rfl|rfl|rfl|rfl|rfl|rfl|rfl<;>
  (refine qc4 ?_ ?_<;>simp[mulT,mA,mB,mC,mD]<;>omega)
def gt{a:Mv}(ha:a.1<8):bf a idM=a:=by
 obtain⟨t,x,y⟩:=a
 have ha:t<8:=ha
 unfold bf idM
 simp only[mA,mB,mC,mD]
 refine qc4 ?_ (qc4 (by simp) (by simp))
 rcases t8 ha with rfl|rfl|rfl|rfl|rfl|rfl|rfl|rfl<;>simp[mulT]
def id_thenM{a:Mv}(ha:a.1<8):bf idM a=a:=by
 obtain⟨t,x,y⟩:=a
 have ha:t<8:=ha
 unfold bf idM
 refine qc4 ?_ (qc4 (by simp) (by simp))
 rcases t8 ha with rfl|rfl|rfl|rfl|rfl|rfl|rfl|rfl<;>simp[mulT]
def invT(t:Nat):Nat:=match t with
 |1=>3|3=>1|n=>n
def invM(m:Mv):Mv:=(invT m.1,-(mA (invT m.1)*m.2.1+mB (invT m.1)*m.2.2),-(mC (invT m.1)*m.2.1+mD (invT m.1)*m.2.2))
def inv_id{m:Mv}(h:m.1<8):bf m (invM m)=idM:=by
 obtain⟨t,x,y⟩:=m
 have h:t<8:=h
 unfold bf invM idM
 rcases t8 h with rfl|rfl|rfl|rfl|rfl|rfl|rfl|rfl<;>simp[mulT,mA,mB,mC,mD,invT]<;>omega
def cg{n k:Int}{m:Mv}(h:okM n m)(hk:n<=k):okM k m:=by
 unfold okM at *
 omega
def uf{n:Int}(h:0<=n):okM n idM:=by
 unfold okM idM
 simp only
 omega
def gg{n k:Int}{a b:Mv}(ha:okM n a)(hb:okM k b):okM (n+k) (bf a b):=by
 obtain⟨at',ax,ay⟩:=a
 obtain⟨bt,bx,by'⟩:=b
 unfold okM bf at *
 simp only at *
 obtain⟨a1,a2⟩:=ha
 obtain⟨b1,b2⟩:=hb
 refine⟨sz,?_⟩
 clear a1
 rcases t8 b1 with rfl|rfl|rfl|rfl|rfl|rfl|rfl|rfl<;>simp only[mA,mB,mC,mD]<;>omega
def okM_inv{n:Int}{a:Mv}(ha:okM n a):okM n (invM a):=by
 obtain⟨at',ax,ay⟩:=a
 unfold okM invM at *
 simp only at *
 obtain⟨a1,a2⟩:=ha
 rcases t8 a1 with rfl|rfl|rfl|rfl|rfl|rfl|rfl|rfl<;>simp[mA,mB,mC,mD,invT]<;>omega
abbrev Ln:=Nat×Int
def ofM(l:Ln):Mv:=match l.1 with
 |1=>(4,2*l.2,0)
 |2=>(6,0,2*l.2)
 |3=>(5,l.2,l.2)
 |_=>(7,-l.2,l.2)
def ofM_ok{l:Ln}{n:Int}(h:-n<=l.2/\l.2<=n):okM (2*n) (ofM l):=by
 obtain⟨k,c⟩:=l
 unfold ofM okM
 simp only at h ⊢
 split<;>simp only<;>omega
def ofM_lt(l:Ln):(ofM l).1<8:=by
 unfold ofM
 split<;>simp
abbrev Cl:=Int×Int×Nat
def lnC3(c:Cl)(e:Nat):Ln:=match e with
 |0=>(match c.2.2 with
  |0=>(2,c.2.1)
  |1=>(1,c.1+1)
  |2=>(2,c.2.1+1)
  |_=>(1,c.1))
 |1=>(3,c.1+c.2.1+1)
 |_=>(4,c.2.1 - c.1)
def nbC(c:Cl)(e:Nat):Cl:=match e with
 |0=>(match c.2.2 with
  |0=>(c.1,c.2.1 - 1,2)
  |1=>(c.1+1,c.2.1,3)
  |2=>(c.1,c.2.1+1,0)
  |_=>(c.1 - 1,c.2.1,1))
 |1=>(c.1,c.2.1,[1,0,3,2].getD c.2.2 0)
 |_=>(c.1,c.2.1,[3,2,1,0].getD c.2.2 0)
def qT(t q:Nat):Nat:=if t<4 then(q+t)%4 else([0,3,2,1].getD ((q+t)%4) 0+(if t%2=0 then 0 else 2))%4
def bQ(m:Mv)(c:Cl):Cl:=(mA m.1*c.1+mB m.1*c.2.1+m.2.1 - (if mA m.1+mB m.1=1 then 0 else 1),mC m.1*c.1+mD m.1*c.2.1+m.2.2 - (if mC m.1+mD m.1=1 then 0 else 1),qT m.1 c.2.2)
def qT_lt{t q:Nat}:qT t q<4:=by
 unfold qT
 split<;>omega
end Go.Am
namespace Go.Am
open Sx Go.Proofs
def gC(f:TJ)(ls rs:TB):Bool:=isAns rs (runF 60 (.f f) ls .empty tell)
def cY{f:TJ}{ls rs:TB}{sg:Sig}(h:gC f ls rs=true)(hs:aa f=some sg)(hp:sg.plain=true)(hg:gG ls=true):Cc f ls rs:=iA (n:=60) hs hp hg h
abbrev mvl(m:Mv):TB:=[.i (Int.ofNat m.1),.i m.2.1,.i m.2.2]
abbrev cll(c:Cl):TB:=[.i c.1,.i c.2.1,.i (Int.ofNat c.2.2)]
def ky{n:Int}(h:-16384<=n/\n<=16384):Cc 101 [.i n] [.b false]:=by
 refine q101 rfl ?_;unfold f101;simp only[qxh]
 repeat (first|simp(disch:=omega)only[↓qXX])
 try rfl
def mchk_c{t x y:Int}(ht:0<=t/\t<8)(hx:-16384<=x/\x<=16384)(hy:-16384<=y/\y<=16384)(hp:(x+y)%2=0):Cc 75 [.i t,.i x,.i y] [.i 0]:=by
 refine q75 rfl ?_;unfold f75;simp only[qxh]
 rcases Int.le_total 0 (x+y)with hs|hs
 ·repeat (first|simp(disch:=omega)only[↓qXX]|refine ah (ky hx) ?_|refine ah (ky hy) ?_|rw[p_rem_nn hs (by omega)])
 ·have h0:-(-(x+y)%2)=0:=by omega
  repeat (first|simp(disch:=omega)only[↓qXX]|refine ah (ky hx) ?_|refine ah (ky hy) ?_|rw[p_rem_np hs (by omega)])
def rg{n:Int}{m:Mv}(h:okM n m)(hn:n<=16384):Cc 75 (mvl m) [.i 0]:=by
 obtain⟨h1,h2,h3,h4,h5,h6⟩:=h
 exact mchk_c ⟨qaL _,by show(m.1:Int)<8;omega⟩ (by omega) (by omega) h6
def rt{t:Nat}(h:t<8):mf gl1 0 [(Int.ofNat t,4)] 4=some [.int .i64 (mA t),.int .i64 (mB t),.int .i64 (mC t),.int .i64 (mD t)]:=by
 rcases t8 h with rfl|rfl|rfl|rfl|rfl|rfl|rfl|rfl<;>kernel_rfl
def vo{n t:Nat}(h:t<n):inB n (Int.ofNat t)=some ():=by
 show(match Nat.blt t n with
  |true=>some ()
  |false=>none)=some ()
 rw[show Nat.blt t n=true by rw[qaU];exact h]
def mof_c{t:Nat}(ht:t<8){x y:Int}(h:-200000<=x/\x<=200000/\-200000<=y/\y<=200000):Cc 108 [.i (mA t),.i (mB t),.i (mC t),.i (mD t),.i x,.i y] [.i (mA t*x+mB t*y),.i (mC t*x+mD t*y)]:=by
 rcases t8 ht with rfl|rfl|rfl|rfl|rfl|rfl|rfl|rfl
 all_goals
  simp only[mA,mB,mC,mD]
  refine q108 rfl ?_;unfold f108;simp only[qxh]
  repeat (first|simp(disch:=omega)only[↓qXX])
  (try simp only[qaY,Lf.i.injEq,and_true,true_and]);(try omega)
def thenT(s t:Nat):Bool:=gC 111 [.i (mA s),.i (mB s),.i (mC s),.i (mD s),.i (mA t),.i (mB t),.i (mC t),.i (mD t)] [.i (mA (mulT s t)),.i (mB (mulT s t)),.i (mC (mulT s t)),.i (mD (mulT s t))]
def numT(t:Nat):Bool:=gC 110 [.i (mA t),.i (mB t),.i (mC t),.i (mD t)] [.i (.ofNat t)]
def uP:((List.range 8).all λs=>numT s&&(List.range 8).all λt=>thenT s t)=true:=by kernel_rfl
def thenT_c{s t:Nat}(hs:s<8)(ht:t<8):Cc 111 [.i (mA s),.i (mB s),.i (mC s),.i (mD s),.i (mA t),.i (mB t),.i (mC t),.i (mD t)] [.i (mA (mulT s t)),.i (mB (mulT s t)),.i (mC (mulT s t)),.i (mD (mulT s t))]:=by
 have h:=qab.1 uP s (qah.2 hs)
 rw[qaa]at h
 exact cY (qab.1 h.2 t (qah.2 ht)) rfl (by kernel_rfl) rfl
def numT_c{t:Nat}(ht:t<8):Cc 110 [.i (mA t),.i (mB t),.i (mC t),.i (mD t)] [.i (.ofNat t)]:=by
 have h:=qab.1 uP t (qah.2 ht)
 rw[qaa]at h
 exact cY h.1 rfl (by kernel_rfl) rfl
def limited_c{m:Mv}{n:Int}(h:okM n m)(hn:n<=16384):Cc 109 (mvl m) (mvl m++[.i 0]):=by
 refine q109 rfl ?_;unfold f109;simp only[qxh]
 repeat (first|simp(disch:=omega)only[↓qXX]|refine ah (rg h hn) ?_)
 rfl
def then_c{a b:Mv}{n k:Int}(ha:okM n a)(hb:okM k b)(hn:0<=n/\0<=k/\n+k<=16384):Cc 78 (mvl a++mvl b) (mvl (bf a b)++[.i 0]):=by
 have h0:=gg ha hb
 refine q78 rfl ?_;unfold f78;simp only[qxh]
 simp only[mvl,qax,qaw]
 repeat (first|simp(disch:=omega)only[↓qXX]|refine ah (rg ha (by omega)) ?_|refine ah (rg hb (by omega)) ?_|refine aE (vo hb.1) ?_|refine aE (rt hb.1) ?_|refine ah (mof_c hb.1 ⟨by have:=ha.2;omega,by have:=ha.2;omega,by have:=ha.2;omega,by have:=ha.2;omega⟩) ?_|refine aE (vo ha.1) ?_|refine aE (rt ha.1) ?_|refine ah (thenT_c ha.1 hb.1) ?_|refine ah (numT_c sz) ?_)
 have hz:∀z:Int,(-n<=z/\z<=n)∨True:=λ_=>.inr trivial
 obtain⟨h1,h2,h3,h4,h5,h6⟩:=h0
 unfold bf at h2 h3 h4 h5
 simp only at h2 h3 h4 h5
 rw[p_add (by omega) (by omega),p_add (by omega) (by omega)]
 refine ah (limited_c (m:=bf a b) ⟨h1,h2,h3,h4,h5,h6⟩ (by omega)) ?_
 simp only[mvl,qax,qaw]
 refine p_x ?_
 rfl
def lchk_c{k c:Int}(hk:1<=k/\k<=4)(hc:-4096<=c/\c<=4096):Cc 132 [.i k,.i c] [.i 0]:=by
 refine q132 rfl ?_;unfold f132;simp only[qxh]
 repeat (first|simp(disch:=omega)only[↓qXX])
 try rfl
def of1_c{k c:Int}{m:Mv}(hk:1<=k/\k<=4)(hc:-4096<=c/\c<=4096)(hm:m=ofM (k.toNat,c)):Cc 105 [.i k,.i c] (mvl m++[.i 0]):=by
 subst hm
 obtain rfl|rfl|rfl|rfl:k=1∨k=2∨k=3∨k=4:=by omega
 all_goals
  refine q105 rfl ?_;unfold f105;simp only[qxh]
  repeat (first|simp(disch:=omega)only[↓qXX]|refine ah (lchk_c (by omega) (by omega)) ?_)
  simp[ofM]
def mlof_c{l:Ln}(hk:1<=l.1/\l.1<=4)(hc:-4096<=l.2/\l.2<=4096):Cc 105 [.i (Int.ofNat l.1),.i l.2] (mvl (ofM l)++[.i 0]):=
 of1_c (k:=Int.ofNat l.1) ⟨by show(1:Int)<=(l.1:Int);omega,by show(l.1:Int)<=4;omega⟩ hc rfl
def pchk_c{x y:Int}(h:-65536<=x/\x<=65536/\-65536<=y/\y<=65536):Cc 166 [.i x,.i y] [.i 0]:=by
 refine q166 rfl ?_;unfold f166;simp only[qxh]
 repeat (first|simp(disch:=omega)only[↓qXX])
 try rfl
def ptM(m:Mv)(x y:Int):Int×Int:=(mA m.1*x+mB m.1*y+2*m.2.1,mC m.1*x+mD m.1*y+2*m.2.2)
def lin_rng{t:Nat}(ht:t<8){n x y:Int}(h:-n<=x/\x<=n/\-n<=y/\y<=n):-n<=mA t*x+mB t*y/\mA t*x+mB t*y<=n/\-n<=mC t*x+mD t*y/\mC t*x+mD t*y<=n:=by
 rcases t8 ht with rfl|rfl|rfl|rfl|rfl|rfl|rfl|rfl<;>simp only[mA,mB,mC,mD]<;>omega
def point_c{m:Mv}(hm:okM 16384 m){x y:Int}(h:-8000<=x/\x<=8000/\-8000<=y/\y<=8000):Cc 134 (mvl m++[.i x,.i y]) [.i (ptM m x y).1,.i (ptM m x y).2,.i 0]:=by
 have hr:=lin_rng hm.1 h
 have hm2:=hm.2
 refine q134 rfl ?_;unfold f134;simp only[qxh]
 simp only[mvl,qax,qaw]
 repeat (first|simp(disch:=omega)only[↓qXX]|refine ah (rg hm (by omega)) ?_|refine ah (pchk_c (by omega)) ?_|refine aE (vo hm.1) ?_|refine aE (rt hm.1) ?_|refine ah (mof_c hm.1 (by omega)) ?_)
 rfl
def cchk_c{c:Cl}(h:-4096<=c.1/\c.1<=4096/\-4096<=c.2.1/\c.2.1<=4096/\c.2.2<4):Cc 56 (cll c) [.i 0]:=by
 have hq:(Int.ofNat c.2.2)<=3:=by show(c.2.2:Int)<=3;omega
 refine q56 rfl ?_;unfold f56;simp only[qxh]
 repeat (first|simp(disch:=omega)only[↓qXX])
 try rfl
def middle_c{x y q:Int}(h:-1000000<=x/\x<=1000000/\-1000000<=y/\y<=1000000):Cc 133 [.i x,.i y,.i q] [.i (2*x+1),.i (2*y+1)]:=by
 refine q133 rfl ?_;unfold f133;simp only[qxh]
 repeat (first|simp(disch:=omega)only[↓qXX])
 (try simp only[qaY,Lf.i.injEq,and_true,true_and]);(try omega)
def sdX(q:Nat):Int:=[0,1,0,-1].getD q 0
def sdY(q:Nat):Int:=[-1,0,1,0].getD q 0
def pick_q{q:Nat}(h:q<4):mf gl0 0 [(Int.ofNat q,17)] 2=some [.int .i64 (sdX q),.int .i64 (sdY q)]:=by
 obtain rfl|rfl|rfl|rfl:q=0∨q=1∨q=2∨q=3:=by omega
 all_goals kernel_rfl
def moved_c{m:Mv}(hm:okM 16384 m){c:Cl}(hc:-1000<=c.1/\c.1<=1000/\-1000<=c.2.1/\c.2.1<=1000/\c.2.2<4):Cc 112 (mvl m++cll c) (cll (bQ m c)):=by
 obtain⟨t,mx,my⟩:=m
 obtain⟨x,y,q⟩:=c
 have hm0:okM 16384 (t,0,0):=⟨hm.1,by simp,by simp,by simp,by simp,by simp⟩
 have hp1:=point_c (cg hm (by omega)) (x:=2*x+1) (y:=2*y+1) (by simp only at hc;omega)
 have hp2:=point_c (cg hm0 (by omega)) (x:=sdX q) (y:=sdY q) (by
  have hq:q<4:=hc.2.2.2.2
  obtain rfl|rfl|rfl|rfl:q=0∨q=1∨q=2∨q=3:=by omega
  all_goals simp[sdX,sdY])
 obtain⟨X,hX⟩ : ∃X,(ptM (t,mx,my) (2*x+1) (2*y+1)).1=X:=⟨_,rfl⟩
 obtain⟨Y,hY⟩ : ∃Y,(ptM (t,mx,my) (2*x+1) (2*y+1)).2=Y:=⟨_,rfl⟩
 obtain⟨U,hU⟩ : ∃U,(ptM (t,0,0) (sdX q) (sdY q)).1=U:=⟨_,rfl⟩
 obtain⟨V,hV⟩ : ∃V,(ptM (t,0,0) (sdX q) (sdY q)).2=V:=⟨_,rfl⟩
 rw[hX,hY]at hp1
 rw[hU,hV]at hp2
 have hm':=hm.2
 have ht:t<8:=hm.1
 have hq:q<4:=hc.2.2.2.2
 simp only at hm' hc
 refine q112 rfl ?_;unfold f112;simp only[qxh]
 simp only[mvl,cll,qax,qaw]
 repeat (first|simp(disch:=omega)only[↓qXX]|refine ah (middle_c (by omega)) ?_|refine aE (vo hq) ?_|refine aE (pick_q hq) ?_|refine ah hp1 ?_|refine ah hp2 ?_)
 rcases t8 ht with rfl|rfl|rfl|rfl|rfl|rfl|rfl|rfl
 all_goals obtain rfl|rfl|rfl|rfl:q=0∨q=1∨q=2∨q=3:=by omega
 all_goals
  simp[ptM,mA,mB,mC,mD,sdX,sdY]at hX hY hU hV
  subst hU hV
  repeat (first|simp(disch:=omega)only[↓qXX]|refine aE (by simp only[mR,putL,offX,Int.reduceToNat,Int.reduceAdd,Int.reduceMul,Int.reduceMod,Int.reduceSub,Int.reduceNeg,Int.reduceDiv,Nat.reduceAdd,Nat.reduceMul,Nat.reduceLeDiff,qaP,qbR,↓reduceIte,qco,qbq,qb7,qcz,qax,qaw,qaF,Int.toNat_zero,qbP,qcD,Int.zero_add];exact rfl) ?_|refine rq 6 ?_)
  try simp[bQ,mA,mB,mC,mD,qT]
  try omega
abbrev Crs:=Int×Int×Int
def encC(c:Crs):Tl:=[.int .i64 c.1,.int .u8 c.2.1,.int .u8 c.2.2]
def okC(c:Crs):Prop:=-9223372036854775808<=c.1/\c.1<=9223372036854775807/\0<=c.2.1/\c.2.1<=255/\0<=c.2.2/\c.2.2<=255
def isK(c:Crs):Bool:=decide (1<=c.2.2)&&decide (c.2.2<=3)
def isKind_c(k:Int):Cc 97 [.i k] [.b (decide (1<=k)&&decide (k<=3))]:=by
 refine q97 rfl ?_;unfold f97;simp only[qxh]
 by_cases h1:1<=k
 ·by_cases h2:k<=3
  ·simp(disch:=omega)only[↓qXX];simp[h1,h2]
  ·simp(disch:=omega)only[↓qXX];simp[h1,h2]
 ·simp(disch:=omega)only[↓qXX];simp[h1]
def chk1_c(c:Crs):Cc 96 [.i c.1,.i c.2.1,.i c.2.2] [.b (!isK c)]:=by
 refine q96 rfl ?_;unfold f96;simp only[qxh]
 repeat (first|simp(disch:=omega)only[↓qXX]|refine ah (isKind_c c.2.2) ?_)
 simp[isK]
abbrev clo1:Value:=.func (.func 96) ⟨[]⟩ ⟨[]⟩
def good1:aY clo1=true:=rfl
abbrev _root_.TA:=List Crs
def index_c{h:HL}{x:Value}{l:TA}(hl:LsH h x 3 encC l)(hn:l.length<=4294967296):∃n:Int,aW cc aa 129 [.v x,.v clo1] (absH ab h) [.i n] (absH ab h)/\(0<=n↔∃c∈l,isK c=false):=by
 obtain⟨rs,h',h1,n,rfl,rfl,h2⟩:=x129 (K:=λrs h'=>∃n:Int,rs=[.i n]/\h'=h/\(0<=n↔∃c∈l,isK c=false)) (H:=h) (glsV hl.good (glsV good1 gls0)) (by
  unfold f129;simp only[qxh]
  refine p_x ?_
  refine cC hl ?_
  refine dA l.length (λj=>∀i,i<j->∀c,l[i]?=some c->isK c=true) rfl (qaI _) (λi hi=>absurd hi (qdj _)) ?_
  intro j hj hi self hself
  refine p_x ?_
  by_cases hlt:j<l.length
  ·have e1:Int.ofNat j<Int.ofNat l.length:=by show(j:Int)<l.length;omega
   rw[p_lss_t e1]
   refine p_x ?_
   obtain⟨c,hc⟩ : ∃c,l[j]?=some c:=⟨_,qas hlt⟩
   refine bB hl rfl hc ?_
   unfold encC
   repeat (first|simp(disch:=omega)only[↓qXX]|refine sI (callv_ct (chk1_c c _) rfl [.agg [.i .i64 c.1,.i .u8 c.2.1,.i .u8 c.2.2]] rfl rfl) ?_)
   cases hk:isK c with
   |true=>
    show P1.cond false _ _
    refine p_x ?_
    rw[p_add (by show -9223372036854775808<=(j:Int)+1;omega) (by show(j:Int)+1<=9223372036854775807;omega)]
    refine hself hlt λi hi' c' hc'=>?_
    rcases qaC i j with h|h
    ·exact hi i h c' hc'
    ·obtain rfl:i=j:=by omega
     rw[hc]at hc';cases hc';exact hk
   |false=>
    show P1.cond true _ _
    refine p_x ?_
    exact⟨_,rfl,by trivial,λ_=>⟨c,qaq hc,hk⟩,λ_=>qaL j⟩
  ·have e1:Int.ofNat l.length<=Int.ofNat j:=by show(l.length:Int)<=j;omega
   rw[p_lss_f e1]
   refine p_x ?_
   refine⟨_,rfl,by trivial,λh=>by omega,λ⟨c,hc,hk⟩=>?_⟩
   obtain⟨i,hi'⟩:=qbs hc
   have hlt':i<l.length:=by
    rcases qaC i l.length with h|h
    ·exact h
    ·rw[qae h]at hi';cases hi'
   rw[hi i (by omega) c hi']at hk
   cases hk)
 exact⟨n,h1,h2⟩
def vd{h:HL}{x:Value}{l:TA}(hl:LsH h x 3 encC l)(hn:l.length<=4294967296):aW cc aa 95 [.v x,.v clo1] (absH ab h) [.b (!l.all isK)] (absH ab h):=by
 obtain⟨n,h1,h2⟩:=index_c hl hn
 obtain⟨rs,h',h3,rfl,rfl⟩:=x95 (K:=λrs h'=>rs=[.b (!l.all isK)]/\h'=h) (H:=h) (glsV hl.good (glsV good1 gls0)) (by
  unfold f95;simp only[qxh]
  repeat (first|simp(disch:=omega)only[↓qXX]|refine bc h1 ?_)
  cases hb:l.all isK with
  |true=>
   have:¬0<=n:=λh=>by
    obtain⟨c,hc,hk⟩:=h2.1 h
    rw[qab.1 hb c hc]at hk;cases hk
   simp(disch:=omega)only[↓qXX]
   trivial
  |false=>
   have:0<=n:=h2.2 (by
    obtain⟨c,hc,hk⟩:=List.all_eq_false.1 hb
    exact⟨c,hc,by simpa using hk⟩)
   simp(disch:=omega)only[↓qXX]
   trivial)
 exact h3
def nbr(w v c e:Nat):Tp:=
 match e,c%4 with
 |0,0=>if 0<c / 4 / w then some (c+2 - 4*w)else none
 |0,1=>if c / 4%w+1<w then some (c+6)else none
 |0,2=>if c / 4 / w+1<v then some (c+4*w - 2)else none
 |0,_=>if 0<c / 4%w then some (c - 6)else none
 |1,0=>some (c+1)
 |1,1=>some (c - 1)
 |1,2=>some (c+1)
 |1,_=>some (c - 1)
 |2,0=>some (c+3)
 |2,1=>some (c+1)
 |2,2=>some (c - 1)
 |2,_=>some (c - 3)
 |_,_=>none
def nameN(w v c e:Nat):TB:=match nbr w v c e with
 |some n=>[.i (.ofNat (min c n)),.i (.ofNat e),.i 0]
 |none=>[.i 0,.i 0,.i 7]
def cellN(w c:Nat):TB:=[.i (.ofNat (c / 4%w)),.i (.ofNat (c / 4 / w)),.i (.ofNat (c%4)),.i 0]
def tabName(w v:Nat):Bool:=(List.range (4*w*v)).all λc=>(List.range 3).all λe=>isAns (nameN w v c e) (runF 60 (.f 98) [.i (.ofNat w),.i (.ofNat v),.i (.ofNat c),.i (.ofNat e)] .empty tell)
def tabCell(w v:Nat):Bool:=(List.range (4*w*v)).all λc=>isAns (cellN w c) (runF 60 (.f 77) [.i (.ofNat w),.i (.ofNat v),.i (.ofNat c)] .empty tell)
def rO(w v:Nat):List (Nat×Nat):=(List.range (4*w*v)).flatMap λc=>(List.range 3).filterMap λe=>match nbr w v c e with
 |some n=>if c<n then some (c,e)else none
 |none=>none
def tab5(w v:Nat):Bool:=tabName w v&&tabCell w v
def uL:∀w v:Nat,1<=w->w<=5->1<=v->v<=5->tab5 w v=true:=by
 have key:((List.range 5).all λw=>(List.range 5).all λv=>tab5 (w+1) (v+1))=true:=by kernel_rfl
 intro w v h1 h2 h3 h4
 have h5:=qab.1 key (w - 1) (qah.2 (by omega))
 have h6:=qab.1 h5 (v - 1) (qah.2 (by omega))
 have e1:w - 1+1=w:=by omega
 have e2:v - 1+1=v:=by omega
 rw[e1,e2]at h6
 exact h6
def nbr_ne{w v c e n:Nat}(hw:1<=w)(h:nbr w v c e=some n):n≠c:=by
 have hx:c / 4%w<=c / 4:=Nat.mod_le _ _
 have hy:c / 4 / w<=c / 4:=qdi _ _
 have hq:c%4=0∨c%4=1∨c%4=2∨c%4=3:=by omega
 rcases e with _|_|_|e<;>rcases hq with h1|h1|h1|h1<;>simp only[nbr,h1]at h<;>
  first
  |(split at h<;>first|(simp only[qar]at h;omega)|(cases h;done))
  |(simp only[qar]at h;omega)
  |(cases h;done)
def tab5_ok{w v:Nat}(h:tab5 w v=true):tabName w v=true/\tabCell w v=true:=by
 unfold tab5 at h
 simp only[qaa]at h
 exact h
def nameIn{w v:Nat}(ht:tab5 w v=true){c e:Nat}(hc:c<4*w*v)(he:e<3):Cc 98 [.i (.ofNat w),.i (.ofNat v),.i (.ofNat c),.i (.ofNat e)] (nameN w v c e):=by
 have h1:=qab.1 (tab5_ok ht).1 c (qah.2 hc)
 exact iA (n:=60) rfl (by kernel_rfl) rfl (qab.1 h1 e (qah.2 he))
def cellIn{w v:Nat}(ht:tab5 w v=true){c:Nat}(hc:c<4*w*v):Cc 77 [.i (.ofNat w),.i (.ofNat v),.i (.ofNat c)] (cellN w c):=
 iA (n:=60) rfl (by kernel_rfl) rfl (qab.1 (tab5_ok ht).2 c (qah.2 hc))
def valS(w v:Int):Prop:=1<=w/\1<=v/\w<=256/\v<=256/\w*v<=256
instance (w v : Int) : Decidable (valS w v) := by unfold valS; infer_instance
def mul_bd{w v a b:Int}(h:0<=w/\w<=a/\0<=v/\v<=b):0<=w*v/\w*v<=a*b:=
 ⟨Int.mul_nonneg h.1 h.2.2.1,Int.mul_le_mul h.2.1 h.2.2.2 h.2.2.1 (by omega)⟩
def shCheck(w v:Int):Cc 53 [.i w,.i v] [.i (if valS w v then 0 else 1)]:=by
 refine q53 rfl ?_;unfold f53;simp only[qxh]
 by_cases h1:1<=w
 ·by_cases h2:1<=v
  ·by_cases h3:w<=256
   ·by_cases h4:v<=256
    ·have hm:=mul_bd (w:=w) (v:=v) (a:=256) (b:=256) (by omega)
     by_cases h5:w*v<=256
     ·simp(disch:=omega)only[↓qXX];simp[valS,h1,h2,h3,h4,h5]
     ·simp(disch:=omega)only[↓qXX];simp[valS,h5]
    ·simp(disch:=omega)only[↓qXX];simp[valS,h4]
   ·simp(disch:=omega)only[↓qXX];simp[valS,h3]
  ·simp(disch:=omega)only[↓qXX];simp[valS,h2]
 ·simp(disch:=omega)only[↓qXX];simp[valS,h1]
def jC{w v:Int}(h:valS w v):Cc 53 [.i w,.i v] [.i 0]:=by
 have:=shCheck w v;rw[qdq h]at this;exact this
def smS(w v:Int):Prop:=1<=w/\w<=5/\1<=v/\v<=5
def sX{w v:Int}(h:smS w v):valS w v:=by
 unfold smS at h;have:=mul_bd (w:=w) (v:=v) (a:=5) (b:=5) (by omega);unfold valS;omega
def sm4{w v:Int}(h:smS w v):4<=4*w*v/\4*w*v<=100:=by
 unfold smS at h
 have h1:=mul_bd (w:=4*w) (v:=v) (a:=20) (b:=5) (by omega)
 have h2:4*w<=4*w*v:=by
  have:=Int.mul_le_mul_of_nonneg_left h.2.2.1 (show 0<=4*w by omega)
  rw[Int.mul_one]at this;exact this
 omega
def has_c{w v:Int}(h:smS w v)(c:Int):Cc 106 [.i w,.i v,.i c] [.b (decide (0<=c)&&decide (c<4*w*v))]:=by
 have h4:=sm4 h
 unfold smS at h
 refine q106 rfl ?_;unfold f106;simp only[qxh]
 by_cases h1:0<=c
 ·by_cases h2:c<4*w*v
  ·simp(disch:=omega)only[↓qXX];simp[h1,h2]
  ·simp(disch:=omega)only[↓qXX];simp[h1,h2]
 ·simp(disch:=omega)only[↓qXX];simp[h1]
def vP{w v c:Int}(h:smS w v)(hc:¬(0<=c/\c<4*w*v)):Cc 77 [.i w,.i v,.i c] [.i 0,.i 0,.i 0,.i 7]:=by
 refine q77 rfl ?_;unfold f77;simp only[qxh]
 repeat (first|simp(disch:=omega)only[↓qXX]|refine ah (jC (sX h)) ?_)
 have e:(decide (0<=c)&&decide (c<4*w*v))=false:=by simp;omega
 refine ah (e▸has_c h c) ?_
 simp(disch:=omega)only[↓qXX,qa1]
def sW{w v c e:Int}(h:smS w v)(hc:¬(0<=c/\c<4*w*v)):Cc 81 [.i w,.i v,.i c,.i e] [.i 0,.i 7]:=by
 refine q81 rfl ?_;unfold f81;simp only[qxh]
 repeat (first|simp(disch:=omega)only[↓qXX]|refine ah (vP h hc) ?_)
def vQ{w v c e:Int}(h:smS w v)(hc:¬(0<=c/\c<4*w*v)):Cc 98 [.i w,.i v,.i c,.i e] [.i 0,.i 0,.i 7]:=by
 refine q98 rfl ?_;unfold f98;simp only[qxh]
 repeat (first|simp(disch:=omega)only[↓qXX]|refine ah (sW h hc) ?_)
def jJ{x y q:Int}(h:-4096<=x/\x<=4096/\-4096<=y/\y<=4096/\q<=3):Cc 56 [.i x,.i y,.i q] [.i 0]:=by
 refine q56 rfl ?_;unfold f56;simp only[qxh]
 simp(disch:=omega)only[↓qXX]
def mM{x y q e:Int}(h:-4096<=x/\x<=4096/\-4096<=y/\y<=4096/\q<=3)(he:2<e):Cc 30 [.i x,.i y,.i q,.i e] [.i 0,.i 0,.i 0,.i 1]:=by
 refine q30 rfl ?_;unfold f30;simp only[qxh]
 repeat (first|simp(disch:=omega)only[↓qXX]|refine ah (jJ h) ?_)
def toNat2{w v:Int}(h:smS w v):∃a b:Nat,w = .ofNat a/\v = .ofNat b/\1<=a/\a<=5/\1<=b/\b<=5:=by
 unfold smS at h
 obtain⟨a,rfl⟩:=qbM (show 0<=w by omega)
 obtain⟨b,rfl⟩:=qbM (show 0<=v by omega)
 exact⟨a,b,rfl,rfl,by omega,by omega,by omega,by omega⟩
def lt_nat{a b c:Nat}(h:(c:Int)<4*(a:Int)*(b:Int)):c<4*a*b:=by
 have:(4*(a:Int)*(b:Int))=((4*a*b:Nat):Int):=by simp
 rw[this]at h;omega
def rI{w v c e:Int}(h:smS w v)(hc:0<=c/\c<4*w*v)(he:2<e):Cc 81 [.i w,.i v,.i c,.i e] [.i 0,.i 1]:=by
 have h4:=sm4 h
 obtain⟨a,b,rfl,rfl,ha⟩:=toNat2 h
 obtain⟨k,rfl⟩:=qbM hc.1
 have hk:k<4*a*b:=lt_nat hc.2
 have hk2:4*a*b<=100:=by
  have:(4*(a:Int)*(b:Int))=((4*a*b:Nat):Int):=by simp
  have h5:=h4.2
  change 4*(a:Int)*(b:Int)<=100 at h5
  rw[this]at h5;omega
 refine q81 rfl ?_;unfold f81;simp only[qxh]
 refine p_x ?_
 refine ah (cellIn (uL a b ha.1 ha.2.1 ha.2.2.1 ha.2.2.2) hk) ?_
 unfold cellN
 refine p_x ?_
 have h1:k / 4%a<=k / 4:=Nat.mod_le _ _
 have h2:k / 4 / a<=k / 4:=qdi _ _
 have h3:(0:Int)<=((k / 4 / a:Nat):Int):=qaL _
 have h5:(0:Int)<=((k / 4%a:Nat):Int):=qaL _
 refine ah (mM (x:=Int.ofNat (k / 4%a)) (y:=Int.ofNat (k / 4 / a)) (q:=Int.ofNat (k%4)) (by simp only[qaW];omega) he) ?_
 simp(disch:=omega)only[↓qXX]
def sV{w v c e:Int}(h:smS w v)(hc:0<=c/\c<4*w*v)(he:2<e):Cc 98 [.i w,.i v,.i c,.i e] [.i 0,.i 0,.i 1]:=by
 refine q98 rfl ?_;unfold f98;simp only[qxh]
 repeat (first|simp(disch:=omega)only[↓qXX]|refine ah (rI h hc he) ?_)
def isUn(w v c e:Int):Bool:=decide (0<=c)&&decide (c<4*w*v)&&decide (e<=2)&&(match nbr w.toNat v.toNat c.toNat e.toNat with
 |some n=>Nat.blt c.toNat n
 |none=>false)
def name_c{w v c e:Int}(h:smS w v)(he:0<=e):∃a b r:Int,Cc 98 [.i w,.i v,.i c,.i e] [.i a,.i b,.i r]/\(isUn w v c e=true↔r=0/\a=c/\b=e):=by
 by_cases hc:0<=c/\c<4*w*v
 ·by_cases h2:e<=2
  ·obtain⟨a,b,rfl,rfl,ha⟩:=toNat2 h
   obtain⟨k,rfl⟩:=qbM hc.1
   obtain⟨j,rfl⟩:=qbM he
   have hk:k<4*a*b:=lt_nat hc.2
   have hn:=nameIn (uL a b ha.1 ha.2.1 ha.2.2.1 ha.2.2.2) hk (e:=j) (by omega)
   unfold nameN at hn
   cases e:nbr a b k j with
   |none=>
    rw[e]at hn
    refine⟨_,_,_,hn,?_⟩
    have:isUn (.ofNat a) (.ofNat b) (k:Int) (j:Int)=false:=by
     unfold isUn
     have e':nbr (Int.ofNat a).toNat (Int.ofNat b).toNat (k:Int).toNat (j:Int).toNat=none:=e
     rw[e'];simp
    rw[this]
    simp
   |some n=>
    rw[e]at hn
    refine⟨_,_,_,hn,?_⟩
    have hne:=nbr_ne ha.1 e
    have e':nbr (Int.ofNat a).toNat (Int.ofNat b).toNat (k:Int).toNat (j:Int).toNat=some n:=e
    unfold isUn
    rw[e']
    simp only[qaa,qdn,qaU,qcw]
    constructor
    ·rintro⟨_,h3⟩
     exact⟨by trivial,by show((min k n:Nat):Int)=k;omega,by trivial⟩
    ·rintro⟨_,h3,_⟩
     have h3:((min k n:Nat):Int)=k:=h3
     exact⟨⟨⟨hc.1,hc.2⟩,h2⟩,by omega⟩
  ·refine⟨_,_,_,sV h hc (by omega),?_⟩
   have:isUn w v c e=false:=by unfold isUn;simp[h2]
   rw[this];simp
 ·refine⟨_,_,_,vQ h hc,?_⟩
  have:isUn w v c e=false:=by
   unfold isUn
   have:(decide (0<=c)&&decide (c<4*w*v))=false:=by simp;omega
   rw[this];simp
  rw[this];simp
def tP{w v c e:Int}(h:isUn w v c e=true):0<=c/\c<4*w*v/\e<=2:=by
 unfold isUn at h
 simp only[qaa,qdn]at h
 exact⟨h.1.1.1,h.1.1.2,h.1.2⟩
def ltC(a b:Crs):Bool:=decide (a.1<b.1)||(decide (a.1=b.1)&&decide (a.2.1<b.2.1))
def ascC:TA->Bool
 |a :: b :: l=>ltC a b&&ascC (b :: l)
 |_=>true
def kw:∀ {l:TA},ascC l=true↔∀(i:Nat) a b,l[i]?=some a->l[i+1]?=some b->ltC a b=true
 | []=>by simp[ascC]
 | [a]=>by simp[ascC]
 |a :: b :: l=>by
  simp only[ascC,qaa]
  rw[kw (l:=b :: l)]
  constructor
  ·rintro⟨h1,h2⟩ i x y hx hy
   cases i with
   |zero=>
    simp only[qa7,qar,qa6]at hx hy
    subst hx hy;exact h1
   |succ i=>exact h2 i x y (by simpa using hx) (by simpa using hy)
  ·intro h
   exact⟨h 0 a b rfl rfl,λi x y hx hy=>h (i+1) x y (by simpa using hx) (by simpa using hy)⟩
def unC(w v:Int)(c:Crs):Bool:=isUn w v c.1 c.2.1
def chkC(w v:Int)(l:TA):Int:=if l.all isK=false then 1 else if l.all (unC w v)=false then 7 else if ascC l=true then 0 else 6
def unit_c(c:Crs):Cc 99 [.i c.1,.i c.2.1,.i c.2.2] [.i c.1,.i c.2.1]:=by
 refine q99 rfl ?_;unfold f99;simp only[qxh]
 simp(disch:=omega)only[↓qXX]
def order_c{a b:Crs}(h:0<=a.1/\a.1<=1000/\0<=b.1/\b.1<=1000/\0<=a.2.1/\a.2.1<=255/\0<=b.2.1/\b.2.1<=255):∃d:Int,Cc 100 [.i a.1,.i a.2.1,.i b.1,.i b.2.1] [.i d]/\(d<0↔ltC a b=true):=by
 by_cases h1:a.1=b.1
 ·refine⟨a.2.1 - b.2.1,?_,by simp only[ltC,qaX,qaa,qdn];omega⟩
  refine q100 rfl ?_;unfold f100;simp only[qxh]
  simp(disch:=omega)only[↓qXX]
 ·refine⟨a.1 - b.1,?_,by simp only[ltC,qaX,qaa,qdn];omega⟩
  refine q100 rfl ?_;unfold f100;simp only[qxh]
  simp(disch:=omega)only[↓qXX]
def check_c{w v:Int}(hs:smS w v){h:HL}{x:Value}{l:TA}(hl:LsH h x 3 encC l)(hk:∀c∈l,okC c)(hn:l.length<=4294967296) :
  aW cc aa 74 [.i w,.i v,.v x] (absH ab h) [.i (chkC w v l)] (absH ab h):=by
 obtain⟨rs,h',h3,rfl,rfl⟩:=x74 (K:=λrs h'=>rs=[.i (chkC w v l)]/\h'=h) (H:=h) (glsI (glsI (glsV hl.good gls0))) (by
  unfold f74;simp only[qxh]
  repeat (first|simp(disch:=omega)only[↓qXX]|refine ah (jC (sX hs)) ?_|refine bc (vd hl hn) ?_)
  cases hb:l.all isK with
  |false=>
   simp(disch:=omega)only[↓qXX,qa1]
   exact⟨by simp[chkC,hb],by trivial⟩
  |true=>
   simp(disch:=omega)only[↓qXX,qaK]
   refine cC hl ?_
   refine dA l.length (λj=>∀i,i<j->∀c,l[i]?=some c->unC w v c=true) rfl (qaI _) (λi hi=>absurd hi (qdj _)) ?_
   intro j hj hi self hself
   refine p_x ?_
   by_cases hlt:j<l.length
   ·rw[bb hlt]
    refine p_x ?_
    obtain⟨c,hc⟩:=cM hlt
    have hmem:=qaq hc
    have hok:=hk c hmem
    unfold okC at hok
    have bad:unC w v c=false->chkC w v l=7:=λhu=>by
     have:l.all (unC w v)=false:=List.all_eq_false.2 ⟨c,hmem,by simp[hu]⟩
     simp[chkC,hb,this]
    refine bB hl rfl hc ?_
    unfold encC
    refine p_x ?_
    obtain⟨a,b,r,hnm,hiff⟩:=name_c (c:=c.1) (e:=c.2.1) hs (by omega)
    refine ah hnm ?_
    refine p_x ?_
    by_cases hr:r=0
    ·subst hr
     repeat (first|simp(disch:=omega)only[↓qXX]|refine ah (unit_c c) ?_)
     by_cases hab:a=c.1/\b=c.2.1
     ·have hu:unC w v c=true:=hiff.2 ⟨rfl,hab.1,hab.2⟩
      simp(disch:=omega)only[↓qXX,qaK]
      rw[bA (by omega)]
      refine hself hlt λi hi' c' hc'=>?_
      rcases qaC i j with h|h
      ·exact hi i h c' hc'
      ·obtain rfl:i=j:=by omega
       rw[hc]at hc';cases hc';exact hu
     ·have hu:unC w v c=false:=by
       rw[←qaS];intro hu
       have:=hiff.1 hu
       exact hab ⟨this.2.1,this.2.2⟩
      rw[p_eqs2_f hab]
      simp(disch:=omega)only[↓qXX,qa1]
      exact⟨by rw[bad hu],by trivial⟩
    ·have hu:unC w v c=false:=by
      rw[←qaS];intro hu
      exact hr (hiff.1 hu).1
     refine p_x ?_
     exact⟨by rw[bad hu],by trivial⟩
   ·obtain rfl:j=l.length:=by omega
    rw[ba (qam _)]
    refine p_x ?_
    have hu:l.all (unC w v)=true:=qab.2 λc hc=>by
     obtain⟨i,hi'⟩:=qbs hc
     exact hi i (cf hi') c hi'
    refine dA (j0:=1) (max 1 l.length) (λj=>1<=j/\∀(i:Nat) a b,i+1<j->l[i]?=some a->l[i+1]?=some b->ltC a b=true) rfl (qcg _ _) ⟨qam _,λi a b hi=>by omega⟩ ?_
    intro j hj' ⟨h1,hi2⟩ self hself
    refine p_x ?_
    refine cC hl ?_
    by_cases hlt:j<l.length
    ·rw[bb hlt]
     refine p_x ?_
     rw[iD h1 (by omega)]
     obtain⟨c,hc⟩:=cM (l:=l) (i:=j - 1) (by omega)
     obtain⟨d,hd⟩:=cM hlt
     have hc1:=hk c (qaq hc)
     have hd1:=hk d (qaq hd)
     have hc2:=tP (qab.1 hu c (qaq hc))
     have hd2:=tP (qab.1 hu d (qaq hd))
     have h4:=sm4 hs
     unfold okC at hc1 hd1
     refine bB hl rfl hc ?_
     unfold encC
     repeat (first|simp(disch:=omega)only[↓qXX]|refine ah (unit_c c) ?_)
     refine bB hl rfl hd ?_
     unfold encC
     repeat (first|simp(disch:=omega)only[↓qXX]|refine ah (unit_c d) ?_)
     obtain⟨o,ho,hoi⟩:=order_c (a:=c) (b:=d) (by omega)
     refine ah ho ?_
     refine p_x ?_
     by_cases hlo:o<0
     ·simp(disch:=omega)only[↓qXX]
      rw[bA (by omega)]
      refine hself (by omega) ⟨by omega,λi a b hi' ha hb'=>?_⟩
      rcases qaC (i+1) j with h|h
      ·exact hi2 i a b h ha hb'
      ·have e1:i=j - 1:=by omega
       have e2:i+1=j:=by omega
       rw[e2,hd]at hb'
       rw[e1,hc]at ha
       cases ha;cases hb'
       exact hoi.1 hlo
     ·have hna:ascC l=false:=by
       rw[←qaS,kw]
       intro hall
       have:=hall (j - 1) c d hc (by rw[show j - 1+1=j by omega];exact hd)
       exact hlo (hoi.2 this)
      refine p_x ?_
      exact⟨by simp[chkC,hb,hu,hna],by trivial⟩
    ·rw[ba (by omega)]
     refine p_x ?_
     have ha:ascC l=true:=kw.2 λi a b ha hb'=>hi2 i a b (by have:=cf hb';omega) ha hb'
     exact⟨by simp[chkC,hb,hu,ha],by trivial⟩)
 exact h3
end Go.Am
namespace Go.Am
namespace Sx
section
variable [Val] [Kno]
variable {C:Cfg} {Sg:Tc} {T:Tt} {α:Type}
def putE(h:HL)(id e:Nat)(enc:α->Tl)(l:List α):HL:=h.set id (.o (.cells (l.flatMap enc) e true))
def dH{h:HL}{id e:Nat}{enc:α->Tl}{l:List α}(hlt:id<h.length):(putE h id e enc l)[id]?=some (.o (.cells (l.flatMap enc) e true)):=by
 unfold putE
 rw[qaE hlt]
def putE_put{h:HL}{id e:Nat}{enc:α->Tl}{l l':List α}:(putE h id e enc l).set id (.o (.cells (l'.flatMap enc) e true))=putE h id e enc l':=by
 unfold putE
 rw[List.set_set]
def lJ{e:Nat}{enc:α->Tl}(henc:∀a,(enc a).length=e):∀ {l:List α} {i:Nat} (a:α),i<l.length->(l.flatMap enc).take (i*e)++enc a++(l.flatMap enc).drop (i*e+e)=(l.set i a).flatMap enc
 | [],_,_,h=>by simp at h
 |b :: l,0,a,_=>by
  have hb:=henc b
  simp only[qbP,qcz,qaw,qaF,qcT,qbC]
  rw[qcE,qbS (by omega),qaw,show e - (enc b).length=0 by omega,qbq]
 |b :: l,i+1,a,h=>by
  have hb:=henc b
  have ih:=lJ henc (l:=l) (i:=i) a (by simpa using h)
  simp only[List.set_cons_succ,qbC]
  rw[←ih,qbk,qb8,List.take_append,qcE]
  rw[qaJ (by omega),qbS (by omega),qaw]
  rw[show i*e+e - (enc b).length=i*e by omega,show i*e+e+e - (enc b).length=i*e+e by omega]
  simp[qaB]
def r_set{h:HL}{id e cx len:Nat}{enc:α->Tl}(henc:∀a,(enc a).length=e){l:List α}{i:Nat}{a:α}{n:Int}{new:Tl}{K:Ta}(hlt:id<h.length)(hn:n=Int.ofNat i)(hi:i<l.length)(hlen:l.length=len)(hnew:new=enc a)
  (hk:K [] (putE h id e enc (l.set i a))):(PH C Sg T).opt (idS e (.slice (some ⟨id,0,tag e⟩) len cx) n) (@hid _ ⟨λx=>(PH C Sg T).heap (.st x new) (putE h id e enc l) (@hid _ ⟨K⟩)⟩):=by
 subst hn hlen hnew
 have hx:idS e (.slice (some ⟨id,0,tag e⟩) l.length cx) (Int.ofNat i)=some (.pointer (some ⟨id,i*e,none⟩)):=by
  rw[idS_eq]
  have hh:0<=Int.ofNat i/\Int.ofNat i<(l.length:Int):=⟨qaL i,by show(i:Int)<l.length;omega⟩
  simp only[qdq hh]
  have:¬(tag e=some 1):=by simp[tag]
  simp only[qdr this,qaF]
  rfl
 refine aE hx ?_
 have hl:=dc (e:=e) (enc:=enc) (l:=l) λa _=>henc a
 have hle:i*e+e<=l.length*e:=by
  have:=qbe e (show i+1<=l.length by omega)
  rw[qbk,qb8]at this;exact this
 have hrun:(Hp.st (.pointer (some ⟨id,i*e,none⟩)) (enc a)).run (getH T (putE h id e enc l)) (putE h id e enc l).length=some ([.set id (.cells ((l.set i a).flatMap enc) e true)],[]):=by
  show stP (.pointer (some ⟨id,i*e,none⟩)) (enc a) (getH T (putE h id e enc l)) (putE h id e enc l).length=_
  unfold stP
  simp only
  rw[cS (dH hlt)]
  simp only
  unfold splice
  rw[henc a,hl,qdq hle,lJ henc a hi]
  rfl
 refine gh hrun ?_
 show K [] (cm _ _)
 have:cm (putE h id e enc l) [.set id (.cells ((l.set i a).flatMap enc) e true)]=putE h id e enc (l.set i a):=putE_put
 rw[this]
 exact hk
end
end Sx
namespace Sx
section
variable [Val] [Kno]
variable {C:Cfg} {Sg:Tc} {T:Tt} {α:Type}
def cQ{enc:α->Tl}{z:α}{n:Nat}:aD (enc z) n=(List.replicate n z).flatMap enc:=by
 unfold aD
 rw[List.flatMap_def,List.map_replicate]
def ey{n:Nat}(h:n<=1048576):mkOk (Int.ofNat n) (Int.ofNat n)=some ():=by
 unfold mkOk
 rw[qdq]
 exact⟨qaL n,qb4 _,by show(n:Int)<=1048576;omega⟩
def cap_full{id n:Nat}{o:Nat}{sp:Tp}:capS (.slice (some ⟨id,o,sp⟩) n (n+1))=some (Int.ofNat n):=rfl
end
end Sx
namespace Sx
section
variable [Val] [Kno]
variable {C:Cfg} {Sg:Tc} {T:Tt} {α:Type}
def rG{l:List α}{i:Nat}{a:α}(h:l[i]?=some a):l.set i a=l:=by
 apply qaT
 intro k
 by_cases hk:i=k
 ·subst hk
  rw[qaE (cf h),h]
 ·rw[qav hk]
end
end Sx
namespace Sx
section
variable [Val] [Kno] {C:Cfg} {T:Tt}
abbrev Ku:=Int×Int
def kvU(k:Ku):Value:=.agg ⟨[.int .i64 k.1,.int .u8 k.2]⟩
def EntS(es:Th)(ks:List Ku):Prop:=es.map (·.key)=ks.map kvU/\∀e∈es,e.val = .bool true
abbrev kkU:TE:=[.i .i64,.i .u8]
def eqZ_dec(a b:Int):eqZ a b=decide (a=b):=by
 have hb:∀m n:Nat,Nat.beq m n=decide (m=n):=λm n=>by
  by_cases h:m=n
  ·subst h;simp
  ·rw[qdo h]
   cases hq:Nat.beq m n with
   |true=>exact absurd (qac hq) h
   |false=>rfl
 cases a<;>cases b<;>simp[eqZ,hb]
 omega
def difK_kv(a b:Ku):difK kkU [.int .i64 a.1,.int .u8 a.2] [.int .i64 b.1,.int .u8 b.2]=some (decide (a=b)):=by
 have e1:dz .i64 .i64=true:=rfl
 have e2:dz .u8 .u8=true:=rfl
 obtain⟨a1,a2⟩:=a
 obtain⟨b1,b2⟩:=b
 simp only[difK,e1,e2,eqZ_dec,qca]
 by_cases h1:a1=b1
 ·by_cases h2:a2=b2
  ·simp[h1,h2]
  ·simp[h1,h2]
 ·simp[h1]
def oX(k:Ku):∀ {es:Th} {ks:List Ku} (i:Nat),EntS es ks->(k∉ks->lF kkU [.int .i64 k.1,.int .u8 k.2] es i=some none)/\(k∈ks->∃j e,lF kkU [.int .i64 k.1,.int .u8 k.2] es i=some (some (i+j))/\es[j]?=some e/\e.val = .bool true)
 | [],[],i,_=>⟨λ_=>rfl,λh=>by cases h⟩
 | [],_ :: _,i,h=>by have:=h.1;simp at this
 |_ :: _,[],i,h=>by have:=h.1;simp at this
 |e :: es,q :: ks,i,h=>by
  obtain⟨h1,h2⟩:=h
  simp only[qat,qaY]at h1
  obtain⟨ih1,ih2⟩:=oX k (i+1) (⟨h1.2,λx hx=>h2 x (qao _ hx)⟩ : EntS es ks)
  have hq:lF kkU [.int .i64 k.1,.int .u8 k.2] (e :: es) i=if k=q then some (some i)else lF kkU [.int .i64 k.1,.int .u8 k.2] es (i+1):=by
   simp only[lF,h1.1,kvU]
   rw[difK_kv]
   by_cases hk:k=q<;>simp[hk]
  rw[hq]
  by_cases hk:k=q
  ·subst hk
   refine⟨λhn=>absurd qaQ hn,λ_=>⟨0,e,by rw[qdq rfl];rfl,rfl,h2 e qaQ⟩⟩
  ·rw[qdr hk]
   refine⟨λhn=>ih1 λhm=>hn (qao _ hm),λhm=>?_⟩
   rcases qap.1 hm with hm|hm
   ·exact absurd hm hk
   ·obtain⟨j,e',g1,g2,g3⟩:=ih2 hm
    exact⟨j+1,e',by rw[g1];congr 2;omega,by simpa using g2,g3⟩
variable {kt:TI}
def keyF_u(h1:aggT C.P kt=some true)(h2:gQ C.P 10000 kt=some kkU)(k:Ku):keyF C.P kt (kvU k)=true:=by
 have e1:dz .i64 .i64=true:=rfl
 have e2:dz .u8 .u8=true:=rfl
 unfold keyF kvU
 simp only[h1,h2,ip,e1,e2,eqZ_dec]
 simp
def se(h1:aggT C.P kt=some true)(h2:gQ C.P 10000 kt=some kkU)(k:Ku){es:Th}{r:Tp}(hr:lF kkU [.int .i64 k.1,.int .u8 k.2] es 0=some r):qD C.P kt (kvU k) es=some r:=by
 unfold qD kvU
 simp only[h1,h2,oW,hr]
def lu_set(h1:aggT C.P kt=some true)(h2:gQ C.P 10000 kt=some kkU){h:HL}{id c:Nat}{es:Th}{ks:List Ku}(hm:h[id]?=some (.o (.map es c)))(he:EntS es ks)(k:Ku) :
  luG C kt false (.bool false) (.map (some id)) (kvU k) false (getH T h)=some [.bool (decide (k∈ks))]:=by
 unfold luG
 rw[keyF_u h1 h2]
 simp only[qaK,qaj,if_false]
 have hg:mapG (getH T h) id=some (es,c):=by
  unfold mapG
  rw[cS hm]
 rw[hg]
 simp only
 obtain⟨f1,f2⟩:=oX k 0 he
 by_cases hk:k∈ks
 ·obtain⟨j,e,g1,g2,g3⟩:=f2 hk
  rw[se h1 h2 k g1]
  have hv:eU es (0+j)=some (.bool true):=by
   rw[qaF]
   unfold eU
   rw[g2]
   simp[g3]
  simp only[hv,qag]
  simp[fz,hk]
 ·rw[se h1 h2 k (f1 hk)]
  simp[fz,hk]
def mu_set(h1:aggT C.P kt=some true)(h2:gQ C.P 10000 kt=some kkU){h:HL}{id c n:Nat}{es:Th}{ks:List Ku}(hm:h[id]?=some (.o (.map es c)))(he:EntS es ks){k:Ku}(hk:k∉ks) :
  muG C kt (.map (some id)) (kvU k) (.bool true) (getH T h) n=some ([.set id (.map (es++[{ key:=kvU k,val:=.bool true,born:=c }]) (c+1))],[]):=by
 unfold muG
 simp only
 rw[keyF_u h1 h2]
 simp only[qaK,qaj,if_false]
 have hg:mapG (getH T h) id=some (es,c):=by
  unfold mapG
  rw[cS hm]
 rw[hg]
 simp only
 rw[se h1 h2 k ((oX k 0 he).1 hk)]
def EntS.push{es:Th}{ks:List Ku}(he:EntS es ks)(k:Ku)(c:Nat):EntS (es++[{ key:=kvU k,val:=.bool true,born:=c }]) (ks++[k]):=by
 refine⟨by simp[he.1],λe hm=>?_⟩
 rcases qaH.1 hm with hm|hm
 ·exact he.2 e hm
 ·simp only[qay]at hm
  subst hm;rfl
end
end Sx
end Go.Am
namespace Go.Am
open Sx Go.Proofs
def clN(w n:Nat):Cl:=(Int.ofNat (n / 4%w),Int.ofNat (n / 4 / w),n%4)
def rkN(w n:Nat):Nat:=10*(n / 4%w+n / 4 / w)+(if n / 4 / w=0/\n / 4%w≠0 then [1,2,1,0]else [0,1,2,1]).getD (n%4) 0
def tZ(w v c e:Nat):TB:=match nbr w v c e with
 |some n=>[.i (.ofNat n),.i 0]
 |none=>[.i 0,.i 7]
def tabNb(w v:Nat):Bool:=(List.range (4*w*v)).all λc=>(List.range 3).all λe=>gC 81 [.i (.ofNat w),.i (.ofNat v),.i (.ofNat c),.i (.ofNat e)] (tZ w v c e)
def tabLn(w v:Nat):Bool:=(rO w v).all λu=>gC 104 [.i (.ofNat w),.i (.ofNat v),.i (.ofNat u.1),.i (.ofNat u.2)] [.i (.ofNat (lnC3 (clN w u.1) u.2).1),.i (lnC3 (clN w u.1) u.2).2,.i 0]
def eqLn(a b:Ln):Bool:=Nat.beq a.1 b.1&&decide (a.2=b.2)
def eqLn_iff{a b:Ln}:eqLn a b=true↔a=b:=by
 unfold eqLn
 rw[qaa,qdn,qcW]
 exact⟨λh=>⟨qac h.1,h.2⟩,λh=>⟨by rw[h.1];exact qbN _,h.2⟩⟩
def eqCl(a b:Cl):Bool:=decide (a.1=b.1)&&(decide (a.2.1=b.2.1)&&Nat.beq a.2.2 b.2.2)
def eqCl_iff{a b:Cl}:eqCl a b=true↔a=b:=by
 unfold eqCl
 rw[qaa,qaa,qdn,qdn,qcW,qcW]
 exact⟨λh=>⟨h.1,h.2.1,qac h.2.2⟩,λh=>⟨h.1,h.2.1,by rw[h.2.2];exact qbN _⟩⟩
def nbT(w v c e:Nat):Bool:=match nbr w v c e with
 |some n=>Nat.blt n (4*w*v)&&((match nbr w v n e with
  |some m=>Nat.beq m c
  |none=>false)&&(eqLn (lnC3 (clN w c) e) (lnC3 (clN w n) e)&&(eqCl (clN w n) (nbC (clN w c) e) && !Nat.beq n c)))
 |none=>true
def lnRng(w c e:Nat):Bool:=Nat.ble 1 (lnC3 (clN w c) e).1&&(Nat.ble (lnC3 (clN w c) e).1 4&&(decide (-10<=(lnC3 (clN w c) e).2)&&decide ((lnC3 (clN w c) e).2<=10)))
def wayT(w v n:Nat):Bool:=Nat.beq n 0||(List.range 3).any λe=>match nbr w v n e with
 |some m=>Nat.blt (rkN w m) (rkN w n)
 |none=>false
def tabNet(w v:Nat):Bool:=(List.range (4*w*v)).all λc=>wayT w v c&&(List.range 3).all λe=>nbT w v c e&&lnRng w c e
def tab71(w v:Nat):Bool:=tabNb w v&&(tabLn w v&&tabNet w v)
def all71:∀w v:Nat,1<=w->w<=5->1<=v->v<=5->tab71 w v=true:=by
 have key:((List.range 5).all λw=>(List.range 5).all λv=>tab71 (w+1) (v+1))=true:=by kernel_rfl
 intro w v h1 h2 h3 h4
 have h5:=qab.1 key (w - 1) (qah.2 (by omega))
 have h6:=qab.1 h5 (v - 1) (qah.2 (by omega))
 rw[show w - 1+1=w by omega,show v - 1+1=v by omega]at h6
 exact h6
def Sh(w v:Nat):Prop:=1<=w/\w<=5/\1<=v/\v<=5
section
variable {w v:Nat}
def pV(h:Sh w v):tabNb w v=true/\tabLn w v=true/\tabNet w v=true:=by
 have:=all71 w v h.1 h.2.1 h.2.2.1 h.2.2.2
 unfold tab71 at this
 simpa only[qaa]using this
def nb_c(h:Sh w v){c e:Nat}(hc:c<4*w*v)(he:e<3):Cc 81 [.i (.ofNat w),.i (.ofNat v),.i (.ofNat c),.i (.ofNat e)] (tZ w v c e):=
 cY (qab.1 (qab.1 (pV h).1 c (qah.2 hc)) e (qah.2 he)) rfl (by kernel_rfl) rfl
def ln_c(h:Sh w v){u e:Nat}(hu:(u,e)∈rO w v):Cc 104 [.i (.ofNat w),.i (.ofNat v),.i (.ofNat u),.i (.ofNat e)] [.i (.ofNat (lnC3 (clN w u) e).1),.i (lnC3 (clN w u) e).2,.i 0]:=
 cY (qab.1 (pV h).2.1 (u,e) hu) rfl (by kernel_rfl) rfl
def net_ok(h:Sh w v){c:Nat}(hc:c<4*w*v):wayT w v c=true/\∀e,e<3->nbT w v c e=true/\lnRng w c e=true:=by
 have:=qab.1 (pV h).2.2 c (qah.2 hc)
 rw[qaa]at this
 refine⟨this.1,λe he=>?_⟩
 have:=qab.1 this.2 e (qah.2 he)
 rwa [qaa]at this
def gU(h:Sh w v){c e n:Nat}(hc:c<4*w*v)(he:e<3)(hn:nbr w v c e=some n):n<4*w*v/\nbr w v n e=some c/\lnC3 (clN w c) e=lnC3 (clN w n) e/\clN w n=nbC (clN w c) e/\n≠c:=by
 have:=((net_ok h hc).2 e he).1
 unfold nbT at this
 rw[hn]at this
 simp only[qaa]at this
 obtain⟨h1,h2,h3,h4,h5⟩:=this
 refine⟨by simpa[qaU]using h1,?_,eqLn_iff.1 h3,eqCl_iff.1 h4,λe=>?_⟩
 ·split at h2
  next m hm=>
   rw[hm,qac h2]
  ·cases h2
 ·subst e
  rw[show Nat.beq n n=true from qbN n]at h5
  cases h5
def ln_ok(h:Sh w v){c e:Nat}(hc:c<4*w*v)(he:e<3):1<=(lnC3 (clN w c) e).1/\(lnC3 (clN w c) e).1<=4/\-10<=(lnC3 (clN w c) e).2/\(lnC3 (clN w c) e).2<=10:=by
 have:=((net_ok h hc).2 e he).2
 unfold lnRng at this
 simp only[qaa,qbx,qdn]at this
 exact this
def sB(h:Sh w v){P:Nat->Prop}(h0:P 0)(hs:∀c e n,c<4*w*v->e<3->nbr w v c e=some n->P c->P n):∀n,n<4*w*v->P n:=by
 have main:∀k n,n<4*w*v->rkN w n<k->P n:=by
  intro k
  induction k with
  |zero=>intro n _ hk;omega
  |succ k ih=>
   intro n hn hk
   have hw:=(net_ok h hn).1
   unfold wayT at hw
   rw[qaX]at hw
   rcases hw with hw|hw
   ·rw[qac hw];exact h0
   ·obtain⟨e,he,hm⟩:=qc5.1 hw
    have he:=qah.1 he
    split at hm
    next m hnm=>
     rw[qaU]at hm
     obtain⟨g1,g2,_⟩:=gU h hn he hnm
     exact hs m e n g1 he g2 (ih m g1 (by omega))
    ·cases hm
 intro n hn
 exact main (rkN w n+1) n hn (by omega)
def mem_un{c e n:Nat}(hc:c<4*w*v)(he:e<3)(hn:nbr w v c e=some n)(hlt:c<n):(c,e)∈rO w v:=by
 unfold rO
 rw[qcb]
 refine⟨c,qah.2 hc,qbj.2 ⟨e,qah.2 he,?_⟩⟩
 simp[hn,hlt]
def sA(h:Sh w v){c e n:Nat}(hc:c<4*w*v)(he:e<3)(hn:nbr w v c e=some n):(min c n,e)∈rO w v/\lnC3 (clN w (min c n)) e=lnC3 (clN w c) e:=by
 obtain⟨g1,g2,g3,_,g5⟩:=gU h hc he hn
 rcases qaC c n with hlt|hge
 ·rw[qbK (by omega)]
  exact⟨mem_un hc he hn hlt,rfl⟩
 ·rw[qc9 hge]
  exact⟨mem_un g1 he g2 (by omega),g3.symm⟩
end
def cB(c:Crs):Ku:=(c.1,c.2.1)
def isCr(l:TA)(u e:Nat):Bool:=decide (((Int.ofNat u,Int.ofNat e):Ku)∈l.map cB)
def SetM(H:HL)(id:Nat)(l:TA):Prop:=∃es c,H[id]?=some (.o (.map es c))/\EntS es (l.map cB)
def vq{l:TA}(h:l.Pairwise λa b=>ltC a b=true):(l.map cB).Nodup:=by
 rw[List.Nodup,List.pairwise_map]
 refine h.imp λ{a b} hab e=>?_
 unfold ltC at hab
 simp only[qaX,qaa,qdn]at hab
 unfold cB at e
 simp only[qca]at e
 omega
def creased_c{H:HL}{w v:Int}{x:Value}{l:TA}(hl:LsH H x 3 encC l)(hn:(l.map cB).Nodup)(hb:l.length<=1000) :
  ∃G,aW cc aa 102 [.i w,.i v,.v x] (absH ab H) [.v (.map (some H.length))] (absH ab (H++[G]))/\SetM (H++[G]) H.length l:=by
 obtain⟨rs,h',h1,rfl,G,rfl,hS⟩:=x102 (K:=λrs h'=>rs=[.v (.map (some H.length))]/\∃G,h'=H++[G]/\SetM h' H.length l) (H:=H) (glsI (glsI (glsV hl.good gls0))) (by
  unfold f102;simp only[qxh]
  refine p_x ?_
  refine cC hl ?_
  refine p_x ?_
  refine cC hl ?_
  refine bm (σ:=HO) l.length (λj _=>[.i (Int.ofNat j)]) (λ_ G=>H++[G]) (λj G=>SetM (H++[G]) H.length (l.take j)) (j0:=0) (s0:=.o (.map [] 0)) rfl rfl (qaI _) ⟨[],0,by simp,rfl,λe h=>(by cases h)⟩ ?_
  rintro j G hj ⟨es,c,g1,g2⟩ self hself
  refine p_x ?_
  by_cases hlt:j<l.length
  ·rw[bb hlt]
   refine p_x ?_
   obtain⟨a,ha⟩:=cM hlt
   have hl':=hl.pre (h':=H++[G]) ⟨[G],rfl⟩
   refine bB hl' rfl ha ?_
   unfold encC
   refine p_x ?_
   have hk:cB a∉(l.take j).map cB:=by
    intro hm
    rw[qb5]at hm
    have hnd:=hn
    have h3:(l.map cB)[j]?=some (cB a):=by rw[qaA,ha];rfl
    have h4:l.map cB=(l.map cB).take j++cB a :: (l.map cB).drop (j+1):=by
     conv=>lhs;rw[←qbX j (l.map cB)]
     rw[qbn (by rw[qbG];exact hlt)]
     congr 2
     rw[qas (by rw[qbG];exact hlt)]at h3
     exact qan h3
    rw[h4,List.nodup_append]at hnd
    exact hnd.2.2 _ hm _ qaQ rfl
   refine gh (mu_set (C:=cc) (T:=ab) (n:=(H++[G]).length) (by kernel_rfl) (by kernel_rfl) g1 g2 hk) ?_
   rw[bA (by omega)]
   have e:cm (H++[G]) [.set H.length (.map (es++[{ key:=kvU (cB a),val:=.bool true,born:=c }]) (c+1))]=H++[.o (.map (es++[{ key:=kvU (cB a),val:=.bool true,born:=c }]) (c+1))]:=by
    show(H++[G]).set H.length _=_
    simp
   rw[e]
   refine hself _ hlt ⟨es++[{ key:=kvU (cB a),val:=.bool true,born:=c }],c+1,by simp,?_⟩
   have ht:(l.take (j+1)).map cB=(l.take j).map cB++[cB a]:=by
    rw[qc0,ha,qb2];rfl
   rw[ht]
   exact g2.push _ _
  ·obtain rfl:j=l.length:=by omega
   rw[ba (qam _)]
   refine p_x ?_
   refine⟨by trivial,G,rfl,?_⟩
   rw[qc8]at g2
   exact⟨es,c,g1,g2⟩)
 exact⟨G,h1,hS⟩
def encM(m:Mv):Tl:=[.int .u8 (Int.ofNat m.1),.int .i64 m.2.1,.int .i64 m.2.2]
def cE(m:Mv):(encM m).length=3:=rfl
def acM(w:Nat)(l:TA)(g:Mv)(c n e:Nat):Mv:=if isCr l (min c n) e then bf (ofM (lnC3 (clN w (min c n)) e)) g else g
def acM_ok{w v:Nat}(h:Sh w v){l:TA}{c e n:Nat}(hc:c<4*w*v)(he:e<3)(hn:nbr w v c e=some n){k:Int}{g:Mv}(hg:okM k g)(hk:0<=k):okM (k+20) (acM w l g c n e):=by
 unfold acM
 obtain⟨_,h2⟩:=sA h hc he hn
 split
 ·rw[h2]
  have hl:=ln_ok h hc he
  have:=gg (ofM_ok (n:=10) ⟨hl.2.2.1,hl.2.2.2⟩) hg
  exact cg this (by omega)
 ·exact cg hg (by omega)
def jp{h:HL}{p:Value}{cs:Tl}{K:Te}{n:Nat}(hp:Ptr h p cs)(hn:cs.length=n)(hk:K cs):P1.peek (.lg cc n p) h (@hid _ ⟨K⟩):=gi (hp.lg hn) hk
def nP{h:HL}{p:Value}{cs ds:Tl}{K:Te}{o n:Nat}(hp:Ptr h p cs)(hn:o+n<=cs.length)(hd:ds=(cs.drop o).take n)(hk:K ds) :
  P1.opt (fdP o p) (@hid _ ⟨λy=>P1.chk y (@hid _ ⟨P1.peek (.lg cc n y) h (@hid _ ⟨K⟩)⟩)⟩):=by
 subst hd
 obtain⟨q,h3,h4⟩:=hp.fd o n hn
 refine aE h3 (aL h4.good (gi (h4.lg ?_) hk))
 rw[qa0,qbT];omega
abbrev _root_.TH:=List Mv
def across_c{w v:Nat}(hs:Sh w v){l:TA}{h:HL}{x pp pm po sl:Value}{mid:Nat}{G:TH}(hP:Ptr h pp [.int .i64 (.ofNat w),.int .i64 (.ofNat v),x])(hM:Ptr h pm [.map (some mid)])(hS:SetM h mid l)(hO:Ptr h po [sl])(hG:LsH h sl 3 encM G)
  {c e n:Nat} (hc:c<4*w*v) (he:e<3) (hn:nbr w v c e=some n) {g:Mv} (hg:G[c]?=some g) {k:Int} (hk:okM k g) (hk0:0<=k/\k<=16000) :
  aW cc aa 103 [.i (.ofNat c),.i (.ofNat e),.v pp,.v pm,.v po] (absH ab h) (mvl (acM w l g c n e)) (absH ab h):=by
 obtain⟨es,c0,m1,m2⟩:=hS
 have ht:=uL w v hs.1 hs.2.1 hs.2.2.1 hs.2.2.2
 obtain⟨hu,hln⟩:=sA hs hc he hn
 have hlk:=ln_ok hs hc he
 rw[←hln]at hlk
 have hname:=nameIn ht hc he
 unfold nameN at hname
 rw[hn]at hname
 simp only at hname
 exact xK x103 (glsI (glsI (glsV hP.good (glsV hM.good (glsV hO.good gls0))))) (by
  unfold f103;simp only[qxh]
  repeat (first|simp(disch:=omega)only[↓qXX]|refine nP (ds:=[.int .i64 (.ofNat w),.int .i64 (.ofNat v)]) hP (by simp) rfl ?_|refine ah hname ?_|refine jp hM rfl ?_|refine aL rfl ?_|refine gi (lu_set (C:=cc) (T:=ab) (by kernel_rfl) (by kernel_rfl) m1 m2 (Int.ofNat (min c n),Int.ofNat e)) ?_)
  unfold acM isCr
  by_cases hcr:((Int.ofNat (min c n),Int.ofNat e):Ku)∈l.map cB
  ·rw[qdp hcr]
   repeat (first|simp(disch:=omega)only[↓qXX,qaK,if_true]|refine nP (ds:=[.int .i64 (.ofNat w),.int .i64 (.ofNat v)]) hP (by simp) rfl ?_|refine ah (ln_c hs hu) ?_)
   refine ah (mlof_c ⟨hlk.1,hlk.2.1⟩ ⟨by omega,by omega⟩) ?_
   simp only[mvl,qax,qaw]
   repeat (first|simp(disch:=omega)only[↓qXX]|refine jp hO rfl ?_|refine aL hG.good ?_)
   refine bB hG rfl hg ?_
   unfold encM
   refine p_x ?_
   refine ah (then_c (ofM_ok (n:=10) ⟨hlk.2.2.1,hlk.2.2.2⟩) hk (by omega)) ?_
   simp only[mvl,qax,qaw]
   simp(disch:=omega)only[↓qXX]
   trivial
  ·rw[qdo hcr]
   repeat (first|simp(disch:=omega)only[↓qXX,qa1,qaj,if_false]|refine jp hO rfl ?_|refine aL hG.good ?_)
   refine bB hG rfl hg ?_
   unfold encM
   simp(disch:=omega)only[↓qXX]
   trivial)
def kY{g:TJ}{sg:Sig}{cap:Tl}{ls rs:TB}{H H':Ts}{args:Tl}(hc:aW cc aa g ls H rs H')(hs:aa g=some sg)(xs:List S0)(h1:bO xs sg.ps=true)(h2:ca xs=ls)(h3:ai xs=args++cap) :
  qe cc (.func (.func g) ⟨[]⟩ ⟨cap⟩) args sg.rs H rs H':=by
 obtain⟨sg',xs',ys,c1,c2,c3,c4⟩:=hc
 rw[hs]at c1
 cases c1
 obtain⟨w1,_⟩:=cz c2.1 h1 (c2.2.1.trans h2.symm)
 rw[w1,h3]at c4
 exact⟨ys,c3,.inl ⟨g,⟨[]⟩,⟨cap⟩,rfl,by simpa using c4⟩⟩
def dv{α:Type}{e:Nat}{enc:α->Tl}(henc:∀a,(enc a).length=e){h:HL}{id cx len:Nat}{l:List α}{i:Nat}{a:α}{n:Int}{new:Tl}{K:Ta}(hg:h[id]?=some (.o (.cells (l.flatMap enc) e true)))(hn:n=Int.ofNat i)(hi:i<l.length)(hlen:l.length=len)(hnew:new=enc a)(hk:K [] (putE h id e enc (l.set i a))) :
  P1.opt (idS e (.slice (some ⟨id,0,tag e⟩) len cx) n) (@hid _ ⟨λx=>P1.heap (.st x new) h (@hid _ ⟨K⟩)⟩):=by
 have hp:putE h id e enc l=h:=rG hg
 have:=r_set (C:=cc) (Sg:=aa) (T:=ab) (h:=h) (id:=id) (cx:=cx) (len:=len) (l:=l) henc (cf hg) hn hi hlen hnew hk
 rw[hp]at this
 exact this
def cX{α:Type}{h:HL}{id e j:Nat}{enc:α->Tl}{l:List α}(hj:j≠id):(putE h id e enc l)[j]?=h[j]?:=by
 unfold putE
 rw[qav (qb9 hj)]
def encN(n:Nat):Tl:=[.int .i64 (Int.ofNat n)]
def io(n:Nat):(encN n).length=1:=rfl
def encT(t:Bool):Tl:=[.bool t]
def dD(t:Bool):(encT t).length=1:=rfl
def iu(q:Tz):(q.flatMap encN).length=q.length:=by
 rw[dc (e:=1) (enc:=encN) λa _=>io a,qcy]
def WQ(b:Nat)(h:HL)(v:Value)(q:Tz):Prop:=∃id off cx vs,v = .slice (some ⟨id,off,tag 1⟩) q.length cx/\b<=id/\h[id]?=some (.o (.cells vs 1 true))/\cut vs off (q.length*1)=some (q.flatMap encN)/\(cx=0∨cx=q.length+1)
def WQ.ls{b:Nat}{h:HL}{v:Value}{q:Tz}(hw:WQ b h v q):LsH h v 1 encN q:=by
 obtain⟨id,off,cx,vs,rfl,h1,h2,h3,_⟩:=hw
 exact⟨λa _=>io a,by rw[iu,qcy],.inr ⟨id,off,cx,vs,true,rfl,h2,h3⟩⟩
def WQ.good{b:Nat}{h:HL}{v:Value}{q:Tz}(hw:WQ b h v q):aY v=true:=hw.ls.good
def WQ.keep{b:Nat}{h h':HL}{v:Value}{q:Tz}(hw:WQ b h v q)(hk:∀(j:Nat) o,b<=j->h[j]?=some o->h'[j]?=some o):WQ b h' v q:=by
 obtain⟨id,off,cx,vs,h0,h1,h2,h3⟩:=hw
 exact⟨id,off,cx,vs,h0,h1,hk _ _ h1 h2,h3⟩
def r_tail{b:Nat}{h:HL}{v:Value}{a:Nat}{q:Tz}{K:Value->Prop}(hw:WQ b h v (a :: q))(hk:∀v',WQ b h v' q->aY v'=true->K v'):P1.opt (slS 1 v (some 1) none none) (@hid _ ⟨K⟩):=by
 obtain⟨id,off,cx,vs,rfl,h1,h2,h3,h4⟩:=hw
 have hr:slS 1 (.slice (some ⟨id,off,tag 1⟩) (a :: q).length cx) (some 1) none none=some (.slice (some ⟨id,off+1,tag 1⟩) q.length (cx - 1)):=by
  unfold slS
  have e1:¬(tag 1≠some 1/\tag 1≠tag 1):=by simp
  simp only[qdr e1]
  have e2:(0:Int)<=(some (1:Int)).getD 0/\(some (1:Int)).getD 0<=(none:Tq).getD ((a :: q).length:Int)/\dw (a :: q).length cx none none:=by
   refine⟨by simp,?_,?_⟩
   ·simp only[qbg,qcH,qaP];omega
   ·unfold dw
    left;simp
  rw[qdq e2]
  rw[fq,fq,fq]
  simp[bY]
 refine aE hr (hk _ ⟨id,off+1,cx - 1,vs,rfl,h1,h2,?_,?_⟩ ?_)
 ·have:=rX (h3:cut vs off ((a :: q).length*1)=some _) (o:=1) (k:=q.length*1) (by simp only[qaP];omega)
  rw[this]
  simp only[qbC,encN,qax,qaw,qco,qbq,qcy]
  rw[←iu q]
  congr 1
  exact qc8
 ·rcases h4 with h4|h4
  ·left;omega
  ·right;simp only[qaP]at h4;omega
 ·simp[aY,noLoc,bg,co,bF,aZ,aB,tag]
def r_apQ{b:Nat}{h:HL}{v:Value}{q:Tz}{n m:Nat}{new:Tl}{K:Ta}(hw:WQ b h v q)(hbh:b<=h.length)(hm:m=h.length)(hnew:new=encN n)(hq:q.length<=1000)
  (hk:∀v' h',WQ b h' v' (q++[n])->aY v'=true->(∀(j:Nat) o,j<b->h[j]?=some o->h'[j]?=some o)->h.length<=h'.length->K [v'] h') :
  P1.heap (.ap cc 1 8 v (.slice (some ⟨m,0,some 11⟩) 1 2)) (h++[.o (.cells new 1 true)]) (@hid _ ⟨K⟩):=by
 subst hm hnew
 obtain⟨id,off,cx,vs,rfl,h1,h2,h3,h4⟩:=hw
 have hlt:=cf h2
 have hx:SlC (h++[HO.o (.cells (encN n) 1 true)]) (.slice (some ⟨h.length,0,tag 1⟩) 1 2) 1 1 (encN n):=⟨rfl,.inr ⟨h.length,0,2,encN n,true,rfl,by simp,Sx.cut_all rfl⟩⟩
 have hg:(h++[HO.o (.cells (encN n) 1 true)])[id]?=some (.o (.cells vs 1 true)):=by rw[qaf hlt];exact h2
 have hsz:ch (q.length+1) 8=true:=by
  unfold ch
  rw[qa5 (by omega),qa5 (by omega)];rfl
 have gd:∀i,aY (.slice (some ⟨i,0,tag 1⟩) (q.length+1) 0)=true:=λi=>by simp[aY,noLoc,bg,co,bF,aZ,aB,tag]
 have hcl:(q.flatMap encN++encN n)=(q++[n]).flatMap encN:=by simp
 have hlen:(q++[n]).length=q.length+1:=by simp
 rcases h4 with rfl|rfl
 ·have hrun:apG cc 1 8 (.slice (some ⟨id,off,tag 1⟩) q.length 0) (.slice (some ⟨h.length,0,tag 1⟩) 1 2) (getH ab (h++[HO.o (.cells (encN n) 1 true)])) (h++[HO.o (.cells (encN n) 1 true)]).length=some ([.set id .dead,.push (.cells (q.flatMap encN++encN n) 1 true)],[.slice (some ⟨(h++[HO.o (.cells (encN n) 1 true)]).length,0,tag 1⟩) (q.length+1) 0]):=by
   unfold apG
   rw[slG_sl hx]
   simp only[ne_eq,not_true_eq_false,if_false]
   rw[cS hg]
   simp only[ne_eq,not_true_eq_false,if_false]
   rw[h3]
   simp only[qc1]
   rw[qdr (by omega),qdq hsz]
  refine gh (show(Hp.ap cc 1 8 (.slice (some ⟨id,off,tag 1⟩) q.length 0) (.slice (some ⟨h.length,0,tag 1⟩) 1 2)).run _ _=_ from hrun) ?_
  refine hk _ _ ⟨(h++[HO.o (.cells (encN n) 1 true)]).length,0,0,q.flatMap encN++encN n,by rw[hlen],by simp;omega,?_,?_,.inl rfl⟩ (gd _) (λj o hj ho=>?_) ?_
  ·show(((h++[HO.o (.cells (encN n) 1 true)]).set id (.o .dead))++[HO.o (.cells (q.flatMap encN++encN n) 1 true)])[_]?=_
   rw[qak (by simp)]
   simp
  ·rw[hcl,hlen]
   exact Sx.cut_all (by rw[iu,hlen,qcy])
  ·show(((h++[HO.o (.cells (encN n) 1 true)]).set id (.o .dead))++[HO.o (.cells (q.flatMap encN++encN n) 1 true)])[j]?=_
   have:=cf ho
   rw[qaf (by simp;omega),qav (by omega),qaf this]
   exact ho
  ·show h.length<=(((h++[HO.o (.cells (encN n) 1 true)]).set id (.o .dead))++[HO.o (.cells (q.flatMap encN++encN n) 1 true)]).length
   simp;omega
 ·have hrun:apG cc 1 8 (.slice (some ⟨id,off,tag 1⟩) q.length (q.length+1)) (.slice (some ⟨h.length,0,tag 1⟩) 1 2) (getH ab (h++[HO.o (.cells (encN n) 1 true)])) (h++[HO.o (.cells (encN n) 1 true)]).length=some ([.push (.cells (q.flatMap encN++encN n) 1 true)],[.slice (some ⟨(h++[HO.o (.cells (encN n) 1 true)]).length,0,tag 1⟩) (q.length+1) 0]):=by
   unfold apG
   rw[slG_sl hx]
   simp only[ne_eq,not_true_eq_false,if_false]
   rw[cS hg]
   simp only[ne_eq,not_true_eq_false,if_false]
   rw[h3]
   simp only
   rw[qdr (by omega),qdq hsz]
  refine gh (show(Hp.ap cc 1 8 (.slice (some ⟨id,off,tag 1⟩) q.length (q.length+1)) (.slice (some ⟨h.length,0,tag 1⟩) 1 2)).run _ _=_ from hrun) ?_
  refine hk _ _ ⟨(h++[HO.o (.cells (encN n) 1 true)]).length,0,0,q.flatMap encN++encN n,by rw[hlen],by simp;omega,?_,?_,.inl rfl⟩ (gd _) (λj o hj ho=>?_) ?_
  ·show((h++[HO.o (.cells (encN n) 1 true)])++[HO.o (.cells (q.flatMap encN++encN n) 1 true)])[_]?=_
   rw[qak (by simp)]
   simp
  ·rw[hcl,hlen]
   exact Sx.cut_all (by rw[iu,hlen,qcy])
  ·show((h++[HO.o (.cells (encN n) 1 true)])++[HO.o (.cells (q.flatMap encN++encN n) 1 true)])[j]?=_
   have:=cf ho
   rw[qaf (by simp;omega),qaf this]
   exact ho
  ·show h.length<=((h++[HO.o (.cells (encN n) 1 true)])++[HO.o (.cells (q.flatMap encN++encN n) 1 true)]).length
   simp
abbrev _root_.Tw:=List Bool
structure RS(H h:HL)(w v:Nat)(x:Value)(l:TA)(A:TH)(B:Tw):Prop where
 pre:Pre H h
 len:H.length+6<=h.length
 p:h[H.length]?=some (.o (.cells [.int .i64 (.ofNat w),.int .i64 (.ofNat v),x] 3 true))
 mp:SetM h (H.length+1) l
 mv:h[H.length+2]?=some (.o (.cells [.map (some (H.length+1))] 1 true))
 ol:h[H.length+3]?=some (.o (.cells (A.flatMap encM) 3 true))
 ov:h[H.length+4]?=some (.o (.cells [.slice (some ⟨H.length+3,0,tag 3⟩) (4*w*v) (4*w*v+1)] 1 true))
 kn:h[H.length+5]?=some (.o (.cells (B.flatMap encT) 1 true))
 la:A.length=4*w*v
 lb:B.length=4*w*v
section
variable {H h:HL} {w v:Nat} {x:Value} {l:TA} {A:TH} {B:Tw}
abbrev ptrB(b:Nat):Value:=.pointer (some ⟨b,0,none⟩)
def du{h:HL}{b e:Nat}{cs:Tl}(hb:h[b]?=some (.o (.cells cs e true))):Ptr h (ptrB b) cs:=⟨b,0,cs,e,true,rfl,hb,Sx.cut_all rfl⟩
def RS.lsA(hr:RS H h w v x l A B):LsH h (.slice (some ⟨H.length+3,0,tag 3⟩) (4*w*v) (4*w*v+1)) 3 encM A:=by
 have hl:=dc (e:=3) (enc:=encM) (l:=A) λa _=>cE a
 rw[←hr.la]
 exact⟨λa _=>cE a,hl,.inr ⟨_,0,_,_,true,rfl,hr.ol,Sx.cut_all hl⟩⟩
def RS.lsB(hr:RS H h w v x l A B):LsH h (.slice (some ⟨H.length+5,0,tag 1⟩) (4*w*v) (4*w*v+1)) 1 encT B:=by
 have hl:=dc (e:=1) (enc:=encT) (l:=B) λa _=>dD a
 rw[←hr.lb]
 exact⟨λa _=>dD a,hl,.inr ⟨_,0,_,_,true,rfl,hr.kn,Sx.cut_all hl⟩⟩
def RS.keep{h':HL}(hr:RS H h w v x l A B)(hk:∀(j:Nat) o,j<H.length+6->h[j]?=some o->h'[j]?=some o)(hl:h.length<=h'.length):RS H h' w v x l A B:=by
 obtain⟨es,c,m1,m2⟩:=hr.mp
 refine⟨?_,qbO hr.len hl,hk _ _ (by omega) hr.p,⟨es,c,hk _ _ (by omega) m1,m2⟩,hk _ _ (by omega) hr.mv,hk _ _ (by omega) hr.ol,hk _ _ (by omega) hr.ov,hk _ _ (by omega) hr.kn,hr.la,hr.lb⟩
 have hpre:=hr.pre
 refine⟨h'.drop H.length,?_⟩
 apply qaT
 intro i
 rcases qaC i H.length with hi|hi
 ·rw[qaf hi]
  have e1:H[i]?=some H[i]:=qas hi
  rw[e1]
  exact hk _ _ (by omega) (hpre.get e1)
 ·rw[qak hi,qa8,Nat.add_sub_cancel' hi]
def gW{α:Type}{id e:Nat}{enc:α->Tl}{L:List α}(hp:Pre H h)(hid:H.length<=id):Pre H (putE h id e enc L):=hp.set hid _
def ux{α:Type}{h:HL}{id e:Nat}{enc:α->Tl}{L:List α}:(putE h id e enc L).length=h.length:=by simp[putE]
def RS.putA(hr:RS H h w v x l A B){A':TH}(ha:A'.length=A.length):RS H (putE h (H.length+3) 3 encM A') w v x l A' B:=by
 obtain⟨es,c,m1,m2⟩:=hr.mp
 have hl:=hr.len
 exact⟨gW hr.pre (by omega),by rw[ux];exact hl,by rw[cX (by omega)];exact hr.p,⟨es,c,by rw[cX (by omega)];exact m1,m2⟩,by rw[cX (by omega)];exact hr.mv,dH (by omega),by rw[cX (by omega)];exact hr.ov,by rw[cX (by omega)];exact hr.kn,by rw[ha];exact hr.la,hr.lb⟩
def RS.putB(hr:RS H h w v x l A B){B':Tw}(hb:B'.length=B.length):RS H (putE h (H.length+5) 1 encT B') w v x l A B':=by
 obtain⟨es,c,m1,m2⟩:=hr.mp
 have hl:=hr.len
 exact⟨gW hr.pre (by omega),by rw[ux];exact hl,by rw[cX (by omega)];exact hr.p,⟨es,c,by rw[cX (by omega)];exact m1,m2⟩,by rw[cX (by omega)];exact hr.mv,by rw[cX (by omega)];exact hr.ol,by rw[cX (by omega)];exact hr.ov,dH (by omega),hr.la,by rw[hb];exact hr.lb⟩
end
def kT(w v:Nat)(l:TA)(G:Nat->Mv):Prop:=∀c e n,c<4*w*v->e<3->nbr w v c e=some n->G n=acM w l (G c) c n e
def cntT:Tw->Nat
 | []=>0
 |b :: l=>(if b then 1 else 0)+cntT l
def fF:∀l:List Bool,cntT l<=l.length
 | []=>qam _
 |b :: l=>by
  have:=fF l
  simp only[cntT,qaP]
  split<;>omega
def eS:∀ {l:Tw} {n:Nat},l[n]?=some false->cntT (l.set n true)=cntT l+1
 | [],n,h=>by simp at h
 |b :: l,0,h=>by
  simp only[qa7,qar]at h
  subst h
  simp[cntT];omega
 |b :: l,n+1,h=>by
  simp only[qa6]at h
  have:=eS h
  simp only[List.set_cons_succ,cntT,this];omega
structure JS(w v:Nat)(l:TA)(A:TH)(B:Tw)(q:Tz)(D:Nat->Nat->Prop):Prop where
 a0:A[0]?=some idM
 b0:B[0]?=some true
 q1:∀c∈q,B[c]?=some true
 dn:∀c e n,D c e->c<4*w*v->e<3->nbr w v c e=some n->B[c]?=some true->c∉q->B[n]?=some true/\∃a,A[c]?=some a/\A[n]?=some (acM w l a c n e)
 bd:∀(c:Nat) a,B[c]?=some true->A[c]?=some a->okM (20*(cntT B:Int)) a
 un:∀G,kT w v l G->G 0=idM->∀(c:Nat) a,B[c]?=some true->A[c]?=some a->a=G c
structure GoodA(w v:Nat)(l:TA)(A:TH):Prop where
 len:A.length=4*w*v
 a0:A[0]?=some idM
 ok:∀a∈A,okM 2000 a
 cons:∀c e n a,c<4*w*v->e<3->nbr w v c e=some n->A[c]?=some a->A[n]?=some (acM w l a c n e)
section
variable {w v:Nat} {l:TA} {A:TH} {B:Tw} {q:Tz}
def JS.start(hs:Sh w v):JS w v l (List.replicate (4*w*v) idM) ((List.replicate (4*w*v) false).set 0 true) [0] λ_ _=>True:=by
 have hN:0<4*w*v:=by
  have h1:=hs.1
  have h2:=hs.2.2.1
  have:0<w*v:=Nat.mul_pos h1 h2
  rw[qbH];omega
 have kn:∀c,((List.replicate (4*w*v) false).set 0 true)[c]?=some true->c=0:=by
  intro c hc
  by_cases h0:c=0
  ·exact h0
  ·rw[qav (qb9 h0),qaM]at hc
   split at hc<;>cases hc
 refine⟨by rw[qaM,qdq hN],by rw[qaE (by simpa using hN)],λc hc=>?_,λc e n _ _ _ _ hb hq=>?_,λc a hb ha=>?_,λG hG h0 c a hb ha=>?_⟩
 ·simp only[qay]at hc
  subst hc
  rw[qaE (by simpa using hN)]
 ·exact absurd (by rw[kn c hb];simp) hq
 ·have:=kn c hb
  subst this
  rw[qaM,qdq hN]at ha
  cases ha
  exact uf (by omega)
 ·have:=kn c hb
  subst this
  rw[qaM,qdq hN]at ha
  cases ha
  exact h0.symm
def JS.pop{c0:Nat}(h:JS w v l A B (c0 :: q) λ_ _=>True):JS w v l A B q λc e=>c=c0->e<0:=by
 refine⟨h.a0,h.b0,λc hc=>h.q1 c (qao _ hc),λc e n hd hc he hn hb hq=>?_,h.bd,h.un⟩
 by_cases hcc:c=c0
 ·have:=hd hcc;omega
 ·exact h.dn c e n trivial hc he hn hb λhm=>by
   rcases qap.1 hm with hm|hm
   ·exact hcc hm
   ·exact hq hm
def JS.skip{c0 j:Nat}(h:JS w v l A B q λc e=>c=c0->e<j)(hn:nbr w v c0 j=none):JS w v l A B q λc e=>c=c0->e<j+1:=by
 refine⟨h.a0,h.b0,h.q1,λc e n hd hc he hn' hb hq=>?_,h.bd,h.un⟩
 refine h.dn c e n (λhcc=>?_) hc he hn' hb hq
 have:=hd hcc
 rcases qaC e j with hlt|hge
 ·exact hlt
 ·obtain rfl:e=j:=by omega
  subst hcc
  rw[hn]at hn';cases hn'
def JS.seen{c0 j n:Nat}{a:Mv}(h:JS w v l A B q λc e=>c=c0->e<j)(hn:nbr w v c0 j=some n)(hb:B[n]?=some true)(ha:A[c0]?=some a)(hm:A[n]?=some (acM w l a c0 n j)):JS w v l A B q λc e=>c=c0->e<j+1:=by
 refine⟨h.a0,h.b0,h.q1,λc e n' hd hc he hn' hb' hq=>?_,h.bd,h.un⟩
 by_cases hcc:c=c0/\e=j
 ·obtain⟨rfl,rfl⟩:=hcc
  rw[hn]at hn';cases hn'
  exact⟨hb,a,ha,hm⟩
 ·exact h.dn c e n' (λhc'=>by have:=hd hc';have:e≠j:=λhe'=>hcc ⟨hc',he'⟩;omega) hc he hn' hb' hq
def JS.fresh(hs:Sh w v){c0 j n:Nat}{a:Mv}(h:JS w v l A B q λc e=>c=c0->e<j)(hla:A.length=4*w*v)(hlb:B.length=4*w*v)(hc0:c0<4*w*v)(hj:j<3)(hn:nbr w v c0 j=some n)(hb0:B[c0]?=some true)(hb:B[n]?=some false)(ha:A[c0]?=some a) :
  JS w v l (A.set n (acM w l a c0 n j)) (B.set n true) (q++[n]) λc e=>c=c0->e<j+1:=by
 obtain⟨g1,_,_,_,g5⟩:=gU hs hc0 hj hn
 have hBn:(B.set n true)[n]?=some true:=qaE (by omega)
 have hAn:(A.set n (acM w l a c0 n j))[n]?=some (acM w l a c0 n j):=qaE (by omega)
 have hB:∀c,c≠n->(B.set n true)[c]?=B[c]?:=λc hc=>qav (qb9 hc)
 have hA:∀c,c≠n->(A.set n (acM w l a c0 n j))[c]?=A[c]?:=λc hc=>qav (qb9 hc)
 have h0n:(0:Nat)≠n:=λe=>by have:=h.b0;rw[e,hb]at this;cases this
 have hok:okM (20*(cntT B:Int)) a:=h.bd c0 a hb0 ha
 refine⟨by rw[hA 0 h0n];exact h.a0,by rw[hB 0 h0n];exact h.b0,λc hc=>?_,λc e n' hd hc he hn' hbc hq=>?_,λc a' hbc hac=>?_,λG hG hG0 c a' hbc hac=>?_⟩
 ·rcases qaH.1 hc with hc|hc
  ·have:=h.q1 c hc
   by_cases hcn:c=n
   ·rw[hcn];exact hBn
   ·rw[hB c hcn];exact this
  ·simp only[qay]at hc
   rw[hc];exact hBn
 ·have hcn:c≠n:=λe=>hq (by rw[e];simp)
  have hcq:c∉q:=λhm=>hq (qaO _ hm)
  rw[hB c hcn]at hbc
  by_cases hcc:c=c0/\e=j
  ·obtain⟨rfl,rfl⟩:=hcc
   rw[hn]at hn';cases hn'
   exact⟨hBn,a,by rw[hA c hcn];exact ha,hAn⟩
  ·obtain⟨d1,a1,d2,d3⟩:=h.dn c e n' (λhc'=>by have:=hd hc';have:e≠j:=λhe'=>hcc ⟨hc',he'⟩;omega) hc he hn' hbc hcq
   have hnn:n'≠n:=λe'=>by rw[e',hb]at d1;cases d1
   exact⟨by rw[hB n' hnn];exact d1,a1,by rw[hA c hcn];exact d2,by rw[hA n' hnn];exact d3⟩
 ·rw[eS hb]
  by_cases hcn:c=n
  ·rw[hcn,hAn]at hac
   cases hac
   exact cg (acM_ok hs hc0 hj hn hok (by omega)) (by omega)
  ·rw[hB c hcn]at hbc
   rw[hA c hcn]at hac
   exact cg (h.bd c a' hbc hac) (by omega)
 ·by_cases hcn:c=n
  ·rw[hcn,hAn]at hac
   cases hac
   rw[hcn,hG c0 j n hc0 hj hn,←h.un G hG hG0 c0 a hb0 ha]
  ·rw[hB c hcn]at hbc
   rw[hA c hcn]at hac
   exact h.un G hG hG0 c a' hbc hac
def JS.done{c0:Nat}(h:JS w v l A B q λc e=>c=c0->e<3):JS w v l A B q λ_ _=>True:=
 ⟨h.a0,h.b0,h.q1,λc e n _ hc he hn hb hq=>h.dn c e n (λ_=>he) hc he hn hb hq,h.bd,h.un⟩
def sh_N(hs:Sh w v):0<4*w*v/\4*w*v<=100:=by
 have h1:1*1<=w*v:=qdl hs.1 hs.2.2.1
 have h2:w*v<=5*5:=qdl hs.2.1 hs.2.2.2
 rw[qbH];omega
def JS.good(hs:Sh w v)(h:JS w v l A B [] λ_ _=>True)(hla:A.length=4*w*v)(hlb:B.length=4*w*v):GoodA w v l A:=by
 have hall:∀n,n<4*w*v->B[n]?=some true:=sB hs h.b0 λc e n hc he hn hb=>(h.dn c e n trivial hc he hn hb (by simp)).1
 have hN:=sh_N hs
 have hcnt:=fF B
 refine⟨hla,h.a0,λa hm=>?_,λc e n a hc he hn ha=>?_⟩
 ·obtain⟨i,hi⟩:=qbs hm
  have:=cf hi
  exact cg (h.bd i a (hall i (by omega)) hi) (by omega)
 ·obtain⟨_,a',g1,g2⟩:=h.dn c e n trivial hc he hn (hall c hc) (by simp)
  rw[ha]at g1;cases g1
  exact g2
def JS.tear(hs:Sh w v){c0 j n:Nat}{a b:Mv}{D:Nat->Nat->Prop}(h:JS w v l A B q D)(hc0:c0<4*w*v)(hj:j<3)(hn:nbr w v c0 j=some n)(hb0:B[c0]?=some true)(hb:B[n]?=some true)(ha:A[c0]?=some a)(hbn:A[n]?=some b)(hne:b≠acM w l a c0 n j):¬ ∃G,kT w v l G/\G 0=idM:=by
 rintro⟨G,hG,hG0⟩
 refine hne ?_
 rw[h.un G hG hG0 n b hb hbn,hG c0 j n hc0 hj hn,←h.un G hG hG0 c0 a hb0 ha]
end
def left(B:Tw)(q:Tz):Nat:=q.length+(B.length - cntT B)
def tabCnt:Bool:=(List.range 5).all λw=>(List.range 5).all λv=>gC 54 [.i (.ofNat (w+1)),.i (.ofNat (v+1))] [.i (.ofNat (4*(w+1)*(v+1)))]
def cnt_all:tabCnt=true:=by kernel_rfl
def cnt_c{w v:Nat}(h:Sh w v):Cc 54 [.i (.ofNat w),.i (.ofNat v)] [.i (.ofNat (4*w*v))]:=by
 have h5:=qab.1 cnt_all (w - 1) (qah.2 (by have:=h.2.1;have:=h.1;omega))
 have h6:=qab.1 h5 (v - 1) (qah.2 (by have:=h.2.2.1;have:=h.2.2.2;omega))
 rw[show w - 1+1=w by have:=h.1;omega,show v - 1+1=v by have:=h.2.2.1;omega]at h6
 exact cY h6 rfl (by kernel_rfl) rfl
def vF{h:HL}{b e:Nat}{vs new:Tl}{K:Ta}(hb:h[b]?=some (.o (.cells vs e true)))(hl:new.length=vs.length)(hk:K [] (h.set b (.o (.cells new e true)))):P1.heap (.st (ptrB b) new) h (@hid _ ⟨K⟩):=by
 have hrun:(Hp.st (ptrB b) new).run (getH ab h) h.length=some ([.set b (.cells new e true)],[]):=by
  show stP (ptrB b) new (getH ab h) h.length=_
  unfold stP
  simp only
  rw[cS hb]
  simp only
  unfold splice
  rw[qdq (by omega)]
  simp[hl]
 exact gh hrun hk
def dj{h:HL}{a b:HO}:(h++[a]).set h.length b=h++[b]:=by simp
def aU{h:HL}{a:HO}:(h++[a])[h.length]?=some a:=by simp
def eqsM{a b:Mv}{K:To}:P1.eqs [(.i (Int.ofNat a.1),.i (Int.ofNat b.1)),(.i a.2.1,.i b.2.1),(.i a.2.2,.i b.2.2)] (@hid _ ⟨K⟩)=K (decide (a=b)):=by
 show K (bP _)=_
 have e:bP [(.i (Int.ofNat a.1),.i (Int.ofNat b.1)),(.i a.2.1,.i b.2.1),(.i a.2.2,.i b.2.2)]=decide (a=b):=by
  rw[qby]
  simp[bP,fK,qcW]
  intro _ _
  omega
 rw[e]
def RelOk(w v:Nat)(l:TA)(H:HL)(rs:TB)(h':HL):Prop:=
 Pre H h'/\((∃A id,rs=[.v (.slice (some ⟨id,0,tag 3⟩) (4*w*v) (4*w*v+1)),.i 0]/\H.length<=id/\h'[id]?=some (.o (.cells (A.flatMap encM) 3 true))/\GoodA w v l A)∨
  (rs=[.v (.slice none 0 0),.i 11]/\¬ ∃G,kT w v l G/\G 0=idM))
def vJ{w v:Nat}(hs:Sh w v){l:TA}(hk:(l.map cB).Nodup)(hl0:l.length<=1000){H:HL}{x:Value}(hl:LsH H x 3 encC l) :
  ∃rs h',aW cc aa 76 [.i (.ofNat w),.i (.ofNat v),.v x] (absH ab H) rs (absH ab h')/\RelOk w v l H rs h':=by
 have hN:=sh_N hs
 obtain⟨rs,h',h1,h2⟩:=x76 (K:=λrs h'=>RelOk w v l H rs h') (H:=H) (glsI (glsI (glsV hl.good gls0))) (by
  unfold f76;simp only[qxh]
  repeat (first|simp(disch:=omega)only[↓qXX]|refine jp (du aU) rfl ?_|refine aL hl.good ?_)
  obtain⟨M,hcr,hSM⟩:=creased_c (w:=.ofNat w) (v:=.ofNat v) (hl.pre (h':=H++[HO.o (.cells [.int .i64 (.ofNat w),.int .i64 (.ofNat v),x] 3 true)]) ⟨_,rfl⟩) hk hl0
  rw[show(H++[HO.o (.cells [.int .i64 (.ofNat w),.int .i64 (.ofNat v),x] 3 true)]).length=H.length+1 by simp]at hcr hSM
  have k0:(H++[HO.o (.cells [.int .i64 (.ofNat w),.int .i64 (.ofNat v),x] 3 true)]++[M]).length=H.length+2:=by simp
  have kp:(H++[HO.o (.cells [.int .i64 (.ofNat w),.int .i64 (.ofNat v),x] 3 true)]++[M])[H.length]?=some (HO.o (.cells [.int .i64 (.ofNat w),.int .i64 (.ofNat v),x] 3 true)):=by simp
  have kH:Pre H (H++[HO.o (.cells [.int .i64 (.ofNat w),.int .i64 (.ofNat v),x] 3 true)]++[M]):=⟨_,qaB ..⟩
  refine bc hcr ?_
  clear hcr
  generalize H++[HO.o (.cells [.int .i64 (.ofNat w),.int .i64 (.ofNat v),x] 3 true)]++[M]=h2 at *
  refine p_x ?_
  refine vF aU rfl ?_
  rw[dj]
  have m0:(h2++[HO.o (.cells [.map (some (H.length+1))] 1 true)]).length=H.length+3:=by simp[k0]
  have mp:=kp |> (Pre.get (b:=h2++[HO.o (.cells [.map (some (H.length+1))] 1 true)]) ⟨_,rfl⟩)
  have mv:(h2++[HO.o (.cells [.map (some (H.length+1))] 1 true)])[H.length+2]?=some (HO.o (.cells [.map (some (H.length+1))] 1 true)):=by rw[←k0];exact aU
  have mH:Pre H (h2++[HO.o (.cells [.map (some (H.length+1))] 1 true)]):=kH.app _
  have mS:SetM (h2++[HO.o (.cells [.map (some (H.length+1))] 1 true)]) (H.length+1) l:=by
   obtain⟨es,c,a1,a2⟩:=hSM
   exact⟨es,c,Pre.get ⟨_,rfl⟩ a1,a2⟩
  rw[k0]
  generalize h2++[HO.o (.cells [.map (some (H.length+1))] 1 true)]=h3 at *
  clear kp kH hSM k0
  repeat (first|simp(disch:=omega)only[↓qXX]|refine nP (p:=ptrB H.length) (cs:=[.int .i64 (.ofNat w),.int .i64 (.ofNat v),x]) (ds:=[.int .i64 (.ofNat w),.int .i64 (.ofNat v)]) (du mp) (by simp) rfl ?_|refine ah (cnt_c hs) ?_|refine aE (ey (by omega)) ?_)
  rw[show(Int.ofNat (4*w*v)).toNat=4*w*v from rfl]
  have z0:HO.o (.cells (aD [.int .u8 0,.int .i64 0,.int .i64 0] (4*w*v)) 3 true)=HO.o (.cells ((List.replicate (4*w*v) idM).flatMap encM) 3 true):=by
   rw[←cQ (enc:=encM) (z:=idM) (n:=4*w*v)]
   rfl
  rw[z0,m0]
  have n0:(h3++[HO.o (.cells ((List.replicate (4*w*v) idM).flatMap encM) 3 true)]).length=H.length+4:=by simp[m0]
  have np:=mp |> (Pre.get (b:=h3++[HO.o (.cells ((List.replicate (4*w*v) idM).flatMap encM) 3 true)]) ⟨_,rfl⟩)
  have nv:=mv |> (Pre.get (b:=h3++[HO.o (.cells ((List.replicate (4*w*v) idM).flatMap encM) 3 true)]) ⟨_,rfl⟩)
  have na:(h3++[HO.o (.cells ((List.replicate (4*w*v) idM).flatMap encM) 3 true)])[H.length+3]?=some (HO.o (.cells ((List.replicate (4*w*v) idM).flatMap encM) 3 true)):=by rw[←m0];exact aU
  have nH:Pre H (h3++[HO.o (.cells ((List.replicate (4*w*v) idM).flatMap encM) 3 true)]):=mH.app _
  have nS:SetM (h3++[HO.o (.cells ((List.replicate (4*w*v) idM).flatMap encM) 3 true)]) (H.length+1) l:=by
   obtain⟨es,c,a1,a2⟩:=mS
   exact⟨es,c,Pre.get ⟨_,rfl⟩ a1,a2⟩
  generalize h3++[HO.o (.cells ((List.replicate (4*w*v) idM).flatMap encM) 3 true)]=h4 at *
  clear mp mv mH mS m0
  refine vF aU rfl ?_
  rw[dj]
  try simp(disch:=omega)only[↓qXX]
  refine jp (du aU) rfl ?_
  refine p_x ?_
  refine aL (by simp[aY,noLoc,bg,co,bF,aZ,aB]) ?_
  refine p_x ?_
  refine aE (x:=Int.ofNat (4*w*v)) rfl ?_
  refine aE (ey (by omega)) ?_
  refine p_x ?_
  rw[n0,show(Int.ofNat (4*w*v)).toNat=4*w*v from rfl]
  refine aL (by simp[aY,noLoc,bg,co,bF,aZ,aB]) ?_
  have o0:(h4++[HO.o (.cells [.slice (some ⟨H.length+3,0,some 13⟩) (4*w*v) (4*w*v+1)] 1 true)]).length=H.length+5:=by simp[n0]
  have op:=np |> (Pre.get (b:=h4++[HO.o (.cells [.slice (some ⟨H.length+3,0,some 13⟩) (4*w*v) (4*w*v+1)] 1 true)]) ⟨_,rfl⟩)
  have om:=nv |> (Pre.get (b:=h4++[HO.o (.cells [.slice (some ⟨H.length+3,0,some 13⟩) (4*w*v) (4*w*v+1)] 1 true)]) ⟨_,rfl⟩)
  have oa:=na |> (Pre.get (b:=h4++[HO.o (.cells [.slice (some ⟨H.length+3,0,some 13⟩) (4*w*v) (4*w*v+1)] 1 true)]) ⟨_,rfl⟩)
  have ov:(h4++[HO.o (.cells [.slice (some ⟨H.length+3,0,some 13⟩) (4*w*v) (4*w*v+1)] 1 true)])[H.length+4]?=some (HO.o (.cells [.slice (some ⟨H.length+3,0,some 13⟩) (4*w*v) (4*w*v+1)] 1 true)):=by rw[←n0];exact aU
  have oH:Pre H (h4++[HO.o (.cells [.slice (some ⟨H.length+3,0,some 13⟩) (4*w*v) (4*w*v+1)] 1 true)]):=nH.app _
  have oS:SetM (h4++[HO.o (.cells [.slice (some ⟨H.length+3,0,some 13⟩) (4*w*v) (4*w*v+1)] 1 true)]) (H.length+1) l:=by
   obtain⟨es,c,a1,a2⟩:=nS
   exact⟨es,c,Pre.get ⟨_,rfl⟩ a1,a2⟩
  generalize h4++[HO.o (.cells [.slice (some ⟨H.length+3,0,some 13⟩) (4*w*v) (4*w*v+1)] 1 true)]=h5 at *
  clear np nv na nH nS n0
  have z1:HO.o (.cells (aD [.bool false] (4*w*v)) 1 true)=HO.o (.cells ((List.replicate (4*w*v) false).flatMap encT) 1 true):=by
   rw[←cQ (enc:=encT) (z:=false) (n:=4*w*v)]
   rfl
  rw[z1,o0]
  have r0:RS H (h5++[HO.o (.cells ((List.replicate (4*w*v) false).flatMap encT) 1 true)]) w v x l (List.replicate (4*w*v) idM) (List.replicate (4*w*v) false):=by
   obtain⟨es,c,a1,a2⟩:=oS
   exact⟨oH.app _,by simp[o0],Pre.get ⟨_,rfl⟩ op,⟨es,c,Pre.get ⟨_,rfl⟩ a1,a2⟩,Pre.get ⟨_,rfl⟩ om,Pre.get ⟨_,rfl⟩ oa,Pre.get ⟨_,rfl⟩ ov,by rw[←o0];exact aU,by simp,by simp⟩
  generalize h5++[HO.o (.cells ((List.replicate (4*w*v) false).flatMap encT) 1 true)]=h6 at *
  clear op om oa ov oH oS o0
  refine dv (enc:=encT) (l:=List.replicate (4*w*v) false) (i:=0) (a:=true) dD r0.kn rfl (by simpa using hN.1) (by simp) rfl ?_
  have r1:=r0.putB (B':=(List.replicate (4*w*v) false).set 0 true) (by simp)
  generalize putE h6 (H.length+5) 1 encT ((List.replicate (4*w*v) false).set 0 true)=h7 at *
  try simp(disch:=omega)only[↓qXX]
  have r2:RS H (h7++[HO.o (.cells [.int .i64 0] 1 true)]) w v x l (List.replicate (4*w*v) idM) ((List.replicate (4*w*v) false).set 0 true):=r1.keep (λj o _ ho=>Pre.get ⟨_,rfl⟩ ho) (by simp)
  have hw0:WQ (H.length+6) (h7++[HO.o (.cells [.int .i64 0] 1 true)]) (.slice (some ⟨h7.length,0,some 11⟩) 1 2) [0]:=⟨h7.length,0,2,_,rfl,r1.len,aU,Sx.cut_all rfl,.inr rfl⟩
  have hj0:=JS.start (l:=l) hs
  have hc0:[0].length<=cntT ((List.replicate (4*w*v) false).set 0 true):=by
   rw[eS (by rw[qaM,qdq hN.1])]
   simp
  generalize h7++[HO.o (.cells [.int .i64 0] 1 true)]=h8 at *
  generalize Value.slice (some ⟨h7.length,0,some 11⟩) 1 2=v8 at *
  generalize List.replicate (4*w*v) idM=A0 at *
  generalize (List.replicate (4*w*v) false).set 0 true=B0 at *
  clear r0 r1
  refine gf (m:=left B0 [0]) (λm ls h'=>∃A B q vv,ls=[.v vv]/\RS H h' w v x l A B/\WQ (H.length+6) h' vv q/\JS w v l A B q (λ_ _=>True)/\q.length<=cntT B/\m=left B q) ⟨A0,B0,[0],v8,rfl,r2,hw0,hj0,hc0,rfl⟩ ?_
  clear r2 hw0 hj0 hc0
  rintro m ls h' ⟨A,B,q,vv,rfl,hr,hw,hj,hql,rfl⟩ self hself
  refine hidL ?_
  refine p_x ?_
  refine cC hw.ls ?_
  cases q with
  |nil=>
   rw[p_gtr_f (by show((List.length ([]:Tz):Nat):Int)<=0;simp)]
   repeat (first|simp(disch:=omega)only[↓qXX]|refine jp (du hr.ov) rfl ?_|refine aL hr.lsA.good ?_)
   exact⟨hr.pre,.inl ⟨A,H.length+3,rfl,by omega,hr.ol,hj.good hs hr.la hr.lb⟩⟩
  |cons c0 q=>
   rw[p_gtr_t (by show(0:Int)<((List.length (c0 :: q):Nat):Int);simp only[qaP];omega)]
   refine p_x ?_
   refine bB hw.ls (i:=0) rfl rfl ?_
   unfold encN
   refine p_x ?_
   refine r_tail hw ?_
   intro v1 hw1 hv1
   refine aL hv1 ?_
   have hb0:B[c0]?=some true:=hj.q1 c0 qaQ
   have hcN:c0<4*w*v:=by have:=cf hb0;have:=hr.lb;omega
   have hcl:=fF B
   refine bm (σ:=Value×HL×List Mv×List Bool×List Nat) 3 (λj s=>[.v s.1,.i (Int.ofNat j)]) (λ_ s=>s.2.1) (λj s=>RS H s.2.1 w v x l s.2.2.1 s.2.2.2.1/\WQ (H.length+6) s.2.1 s.1 s.2.2.2.2/\JS w v l s.2.2.1 s.2.2.2.1 s.2.2.2.2 (λc e=>c=c0->e<j)/\s.2.2.2.2.length<=cntT s.2.2.2.1/\left s.2.2.2.1 s.2.2.2.2=left B q/\s.2.2.2.1[c0]?=some true) (j0:=0) (s0:=(v1,h',A,B,q)) rfl rfl (by omega) ⟨hr,hw1,hj.pop,by show q.length<=cntT B;simp only[qaP]at hql;omega,rfl,hb0⟩ ?_
   clear hr hw hj hw1 hv1 hb0
   rintro j ⟨v2,h2',A2,B2,q2⟩ hj3 ⟨hr,hw,hj,hq2,hleft,hb0⟩ self2 hself2
   simp only at hr hw hj hq2 hleft hb0 hself2
   refine p_x ?_
   by_cases hlt:j<3
   case neg=>
    obtain rfl:j=3:=by omega
    rw[p_lss_f (by show(3:Int)<=((3:Nat):Int);omega)]
    refine p_x ?_
    refine hself (left B q) _ _ ?_ ⟨A2,B2,q2,v2,rfl,hr,hw,hj.done,hq2,hleft.symm⟩
    unfold left
    simp only[qaP];omega
   rw[p_lss_t (by show((j:Nat):Int)<3;omega)]
   refine p_x ?_
   have next:∀(v3:Value) (h3':HL) (A3:TH) (B3:Tw) (q3:Tz),RS H h3' w v x l A3 B3->WQ (H.length+6) h3' v3 q3->JS w v l A3 B3 q3 (λc e=>c=c0->e<j+1)->q3.length<=cntT B3->left B3 q3=left B q->B3[c0]?=some true->self2 [.v v3,.i (Int.ofNat j+1)] h3':=λv3 h3' A3 B3 q3 a1 a2 a3 a4 a5 a6=>hself2 (v3,h3',A3,B3,q3) hlt ⟨a1,a2,a3,a4,a5,a6⟩
   have hadd:∀K:Int->Prop,P1.ari .add .u8 (Int.ofNat j) 1 (@hid _ ⟨K⟩)=K (Int.ofNat j+1):=λK=>p_add8 (by show(0:Int)<=(j:Int)+1;omega) (by show(j:Int)+1<=255;omega)
   refine nP (p:=ptrB H.length) (cs:=[.int .i64 (.ofNat w),.int .i64 (.ofNat v),x]) (ds:=[.int .i64 (.ofNat w),.int .i64 (.ofNat v)]) (du hr.p) (by simp) rfl ?_
   refine p_x ?_
   refine ah (nb_c hs hcN hlt) ?_
   have hcl2:=fF B2
   have hlb2:=hr.lb
   cases hnb:nbr w v c0 j with
   |none=>
    unfold tZ
    rw[hnb]
    refine p_x ?_
    rw[hadd]
    exact next _ _ _ _ _ hr hw (hj.skip hnb) hq2 hleft hb0
   |some n=>
    unfold tZ
    rw[hnb]
    refine p_x ?_
    obtain⟨a,ha⟩:=cM (l:=A2) (i:=c0) (by rw[hr.la];exact hcN)
    have hok:=hj.bd c0 a hb0 ha
    have hac:=across_c hs (du hr.p) (du hr.mv) hr.mp (du hr.ov) hr.lsA hcN hlt hnb ha hok (by omega)
    refine sI (kY (args:=[.int .i64 (Int.ofNat c0),.int .u8 (Int.ofNat j)]) hac rfl [.leaf (.i .i64 (Int.ofNat c0)),.leaf (.i .u8 (Int.ofNat j)),.leaf (.v (ptrB H.length)),.leaf (.v (ptrB (H.length+2))),.leaf (.v (ptrB (H.length+4)))] rfl rfl rfl) ?_
    have hnN:=(gU hs hcN hlt hnb).1
    have hnc:=(gU hs hcN hlt hnb).2.2.2.2
    generalize hm:acM w l a c0 n j=m at *
    simp only[mvl]
    refine p_x ?_
    obtain⟨t,ht⟩:=cM (l:=B2) (i:=n) (by rw[hr.lb];exact hnN)
    refine bB hr.lsB rfl ht ?_
    unfold encT
    refine p_x ?_
    cases t with
    |true=>
     repeat (first|simp(disch:=omega)only[↓qXX,qaK]|refine jp (du hr.ov) rfl ?_|refine aL hr.lsA.good ?_)
     obtain⟨b,hb⟩:=cM (l:=A2) (i:=n) (by rw[hr.la];exact hnN)
     refine bB hr.lsA rfl hb ?_
     unfold encM
     refine p_x ?_
     rw[eqsM]
     by_cases hbm:b=m
     ·rw[qdp hbm]
      simp(disch:=omega)only[↓qXX,qaK]
      rw[hadd]
      exact next _ _ _ _ _ hr hw (hj.seen hnb ht ha (by rw[hb,hbm,hm])) hq2 hleft hb0
     ·rw[qdo hbm]
      simp(disch:=omega)only[↓qXX,qa1]
      exact⟨hr.pre,.inr ⟨rfl,hj.tear hs hcN hlt hnb hb0 ht ha hb (by rw[hm];exact hbm)⟩⟩
    |false=>
     repeat (first|simp(disch:=omega)only[↓qXX,qa1]|refine jp (du hr.ov) rfl ?_|refine aL hr.lsA.good ?_)
     refine dv (enc:=encM) (l:=A2) (i:=n) (a:=m) cE hr.ol rfl (by rw[hr.la];exact hnN) hr.la rfl ?_
     have hrA:=hr.putA (A':=A2.set n m) (by simp)
     have hwA:=hw.keep (h':=putE h2' (H.length+3) 3 encM (A2.set n m)) (λj o hjb ho=>by rw[cX (by omega)];exact ho)
     generalize putE h2' (H.length+3) 3 encM (A2.set n m)=h3' at *
     try simp(disch:=omega)only[↓qXX]
     refine dv (enc:=encT) (l:=B2) (i:=n) (a:=true) dD hrA.kn rfl (by rw[hr.lb];exact hnN) hr.lb rfl ?_
     have hrB:=hrA.putB (B':=B2.set n true) (by simp)
     have hwB:=hwA.keep (h':=putE h3' (H.length+5) 1 encT (B2.set n true)) (λj o hjb ho=>by rw[cX (by omega)];exact ho)
     generalize putE h3' (H.length+5) 1 encT (B2.set n true)=h4' at *
     try simp(disch:=omega)only[↓qXX]
     refine r_apQ (n:=n) hwB hrB.len rfl rfl (by omega) ?_
     intro v5 h5' hw5 hv5 hk5 hl5
     have hr5:=hrB.keep hk5 hl5
     repeat (first|simp(disch:=omega)only[↓qXX]|refine aL hv5 ?_|refine jp (du hr5.ov) rfl ?_|refine aL hr5.lsA.good ?_)
     refine bB hr5.lsA (a:=m) rfl (qaE (by rw[hr.la];exact hnN)) ?_
     unfold encM
     simp(disch:=omega)only[↓qXX]
     try rw[eqsM,qdp rfl]
     simp(disch:=omega)only[↓qXX,qaK]
     rw[hadd]
     refine next _ _ _ _ _ hr5 hw5 ?_ ?_ ?_ ?_
     ·rw[←hm]
      exact hj.fresh hs hr.la hr.lb hcN hlt hnb hb0 ht ha
     ·rw[eS ht];simp;omega
     ·rw[←hleft]
      have:=fF (B2.set n true)
      unfold left
      rw[eS ht]at this ⊢
      simp only[qaG,qaP,qbR,qbl]at this ⊢
      omega
     ·rw[qav hnc];exact hb0)
 exact⟨rs,h',h1,h2⟩
def gw(c:Cl):Tl:=[.int .i64 c.1,.int .i64 c.2.1,.int .u8 (Int.ofNat c.2.2)]
def lA(c:Cl):(gw c).length=3:=rfl
def rh{m:Mv}{n:Int}(hm:okM n m){c:Cl}{k:Int}(hc:-k<=c.1/\c.1<=k/\-k<=c.2.1/\c.2.1<=k):-(n+k+1)<=(bQ m c).1/\(bQ m c).1<=n+k+1/\-(n+k+1)<=(bQ m c).2.1/\(bQ m c).2.1<=n+k+1/\(bQ m c).2.2<4:=by
 have h1:=lin_rng hm.1 hc
 have h2:=hm.2
 unfold bQ
 simp only
 refine⟨?_,?_,?_,?_,qT_lt⟩<;>split<;>omega
def vMv(m:Mv):Bool:=decide (-16384<=m.2.1/\m.2.1<=16384/\-16384<=m.2.2/\m.2.2<=16384)
def vCl(c:Cl):Bool:=decide (-4096<=c.1/\c.1<=4096/\-4096<=c.2.1/\c.2.1<=4096)
def vMv_ok{n:Int}{m:Mv}(h:okM n m)(hv:vMv m=true):okM 16384 m:=by
 unfold vMv at hv
 rw[qdn]at hv
 exact⟨h.1,hv.1,hv.2.1,hv.2.2.1,hv.2.2.2,h.2.2.2.2.2⟩
def vMI(t x y:Int):Bool:=decide (t<8/\(-16384<=x/\x<=16384)/\(-16384<=y/\y<=16384)/\(x+y)%2=0)
def nc{n:Int}:Cc 101 [.i n] [.b (!decide (-16384<=n/\n<=16384))]:=by
 refine q101 rfl ?_;unfold f101;simp only[qxh]
 refine p_x ?_
 by_cases h1:n < -16384
 ·rw[p_lss_t (show n < -16384 by omega)]
  refine p_x ?_
  rw[qdo (by omega)]
  try rfl
 ·rw[p_lss_f (show(-16384:Int)<=n by omega)]
  refine p_x ?_
  by_cases h2:n<=16384
  ·rw[p_gtr_f (by omega)]
   refine p_x ?_
   rw[qdp (by omega)]
   try rfl
  ·rw[p_gtr_t (by omega)]
   refine p_x ?_
   rw[qdo (by omega)]
   try rfl
def mchk_any{t x y:Int}(ht:0<=t/\t<=255):Cc 75 [.i t,.i x,.i y] [.i (if vMI t x y then 0 else 1)]:=by
 by_cases hv:vMI t x y=true
 ·rw[qdq hv]
  unfold vMI at hv
  rw[qdn]at hv
  exact mchk_c ⟨ht.1,hv.1⟩ hv.2.1 hv.2.2.1 hv.2.2.2
 ·rw[qdr hv]
  unfold vMI at hv
  rw[qdn]at hv
  refine q75 rfl ?_;unfold f75;simp only[qxh]
  refine p_x ?_
  by_cases h1:8<=t
  ·rw[p_geq_t h1]
   simp(disch:=omega)only[↓qXX]
   try rfl
  rw[p_geq_f (by omega)]
  repeat (first|simp(disch:=omega)only[↓qXX]|refine ah nc ?_)
  by_cases h2:-16384<=x/\x<=16384
  case neg=>
   rw[qdo h2]
   simp(disch:=omega)only[↓qXX,qa1]
   try rfl
  rw[qdp h2]
  repeat (first|simp(disch:=omega)only[↓qXX,qaK]|refine ah nc ?_)
  by_cases h3:-16384<=y/\y<=16384
  case neg=>
   rw[qdo h3]
   simp(disch:=omega)only[↓qXX,qa1]
   try rfl
  rw[qdp h3]
  simp(disch:=omega)only[↓qXX,qaK]
  have hp:(x+y)%2≠0:=λe=>hv ⟨by omega,h2,h3,e⟩
  rcases Int.le_total 0 (x+y)with hs|hs
  ·repeat (first|simp(disch:=omega)only[↓qXX]|rw[p_rem_nn hs (by omega)])
   try rfl
  ·have h0:-(-(x+y)%2)≠0:=by omega
   repeat (first|simp(disch:=omega)only[↓qXX]|rw[p_rem_np hs (by omega)])
   try rfl
def limited_w{m:Mv}{n:Int}(h:okM n m)(hn:n<=100000):Cc 109 (mvl m) (if vMv m then mvl m++[.i 0]else [.i 0,.i 0,.i 0,.i 3]):=by
 refine q109 rfl ?_;unfold f109;simp only[qxh]
 repeat (first|simp(disch:=omega)only[↓qXX]|refine ah (mchk_any (by have:=h.1;show 0<=(m.1:Int)/\(m.1:Int)<=255;omega)) ?_)
 have e:vMI (Int.ofNat m.1) m.2.1 m.2.2=vMv m:=by
  have h1:=h.1
  have h2:=h.2.2.2.2.2
  unfold vMI vMv
  rw[decide_eq_decide]
  show((m.1:Int)<8/\_)↔_
  omega
 rw[e]
 cases vMv m with
 |true=>
  simp only[if_true]
  simp(disch:=omega)only[↓qXX]
  try rfl
 |false=>
  simp only[qaj,if_false]
  simp(disch:=omega)only[↓qXX]
  try rfl
def then_w{a b:Mv}(ha:okM 2000 a)(hb:okM 16384 b):Cc 78 (mvl a++mvl b) (if vMv (bf a b)then mvl (bf a b)++[.i 0]else [.i 0,.i 0,.i 0,.i 3]):=by
 have h0:=gg ha hb
 refine q78 rfl ?_;unfold f78;simp only[qxh]
 simp only[mvl,qax,qaw]
 repeat (first|simp(disch:=omega)only[↓qXX]|refine ah (rg ha (by omega)) ?_|refine ah (rg hb (by omega)) ?_|refine aE (vo hb.1) ?_|refine aE (rt hb.1) ?_|refine ah (mof_c hb.1 ⟨by have:=ha.2;omega,by have:=ha.2;omega,by have:=ha.2;omega,by have:=ha.2;omega⟩) ?_|refine aE (vo ha.1) ?_|refine aE (rt ha.1) ?_|refine ah (thenT_c ha.1 hb.1) ?_|refine ah (numT_c sz) ?_)
 have h1:=h0
 obtain⟨_,h2,h3,h4,h5,_⟩:=h1
 unfold bf at h2 h3 h4 h5
 simp only at h2 h3 h4 h5
 rw[p_add (by omega) (by omega),p_add (by omega) (by omega)]
 refine ah (limited_w (m:=bf a b) h0 (by omega)) ?_
 cases vMv (bf a b)with
 |true=>
  simp only[if_true]
  simp only[mvl,qax,qaw]
  simp(disch:=omega)only[↓qXX]
  try rfl
 |false=>
  simp only[qaj,if_false]
  simp(disch:=omega)only[↓qXX]
  try rfl
def cchk_any{c:Cl}(hq:c.2.2<4):Cc 56 (cll c) [.i (if vCl c then 0 else 1)]:=by
 by_cases hv:vCl c=true
 ·rw[qdq hv]
  unfold vCl at hv
  rw[qdn]at hv
  exact cchk_c ⟨hv.1,hv.2.1,hv.2.2.1,hv.2.2.2,hq⟩
 ·rw[qdr hv]
  unfold vCl at hv
  rw[qdn]at hv
  refine q56 rfl ?_;unfold f56;simp only[qxh]
  simp only[cll]
  refine p_x ?_
  by_cases h1:c.1 < -4096
  ·repeat (first|simp(disch:=omega)only[↓qXX])
   try rfl
  by_cases h2:4096<c.1
  ·repeat (first|simp(disch:=omega)only[↓qXX])
   try rfl
  by_cases h3:c.2.1 < -4096
  ·repeat (first|simp(disch:=omega)only[↓qXX])
   try rfl
  ·have h4:4096<c.2.1:=by omega
   repeat (first|simp(disch:=omega)only[↓qXX])
   try rfl
def move_w{m:Mv}(hm:okM 16384 m){c:Cl}(hc:-1000<=c.1/\c.1<=1000/\-1000<=c.2.1/\c.2.1<=1000/\c.2.2<4):Cc 79 (mvl m++cll c) (if vCl (bQ m c)then cll (bQ m c)++[.i 0]else [.i 0,.i 0,.i 0,.i 3]):=by
 have h1:=rh hm (k:=1000) ⟨hc.1,hc.2.1,hc.2.2.1,hc.2.2.2.1⟩
 refine q79 rfl ?_;unfold f79;simp only[qxh]
 simp only[mvl,cll,qax,qaw]
 repeat (first|simp(disch:=omega)only[↓qXX]|refine ah (rg hm (by omega)) ?_|refine ah (cchk_c (c:=c) ⟨by omega,by omega,by omega,by omega,hc.2.2.2.2⟩) ?_)
 refine ah (moved_c hm hc) ?_
 simp only[cll]
 refine p_x ?_
 refine ah (cchk_any (c:=bQ m c) h1.2.2.2.2) ?_
 cases vCl (bQ m c)with
 |true=>
  simp only[if_true]
  simp(disch:=omega)only[↓qXX]
  try rfl
 |false=>
  simp only[qaj,if_false]
  simp(disch:=omega)only[↓qXX]
  try rfl
def GoodA.eq{w v:Nat}{l:TA}{A:TH}(hs:Sh w v)(hA:GoodA w v l A){G:Nat->Mv}(hG:kT w v l G)(h0:G 0=idM):∀c,c<4*w*v->A[c]?=some (G c):=
 sB hs (by rw[h0];exact hA.a0) λc e n hc he hn h=>by rw[hG c e n hc he hn];exact hA.cons c e n _ hc he hn h
def plL(w v:Nat)(G:Nat->Mv)(r:Mv):TH:=(List.range (4*w*v)).map λc=>bf (G c) r
def imL(w v:Nat)(G:Nat->Mv)(r:Mv):List Cl:=(List.range (4*w*v)).map λc=>bQ (bf (G c) r) (clN w c)
def pF{w v:Nat}{G:Nat->Mv}{r:Mv}{c:Nat}(h:c<4*w*v):(plL w v G r)[c]?=some (bf (G c) r):=by
 unfold plL
 rw[qaA,qba h];rfl
def imL_get{w v:Nat}{G:Nat->Mv}{r:Mv}{c:Nat}(h:c<4*w*v):(imL w v G r)[c]?=some (bQ (bf (G c) r) (clN w c)):=by
 unfold imL
 rw[qaA,qba h];rfl
def take_set{α:Type}{L A:List α}{j:Nat}{a:α}(hL:L[j]?=some a)(hlen:L.length=A.length):(L.take j++A.drop j).set j a=L.take (j+1)++A.drop (j+1):=by
 have hj:=cf hL
 have h1:(L.take j).length=j:=by rw[qa0];omega
 rw[qbW _ _ (by omega),h1,qbv,qbn (by omega),qcT,qc0,hL]
 simp
def mid_get{α:Type}{L A:List α}{j:Nat}{a:α}(hA:A[j]?=some a)(hlen:L.length=A.length):(L.take j++A.drop j)[j]?=some a:=by
 have hj:=cf hA
 rw[qak (by rw[qa0];omega),qa0,qbK (by omega),qbv,qa8,qcD]
 exact hA
def sy{α:Type}{L A:List α}{j:Nat}(hlen:L.length=A.length)(hj:j<=L.length):(L.take j++A.drop j).length=A.length:=by
 rw[qaG,qa0,qbT];omega
def cU{α:Type}{e cx n:Nat}{enc:α->Tl}(henc:∀a,(enc a).length=e){h:HL}{id:Nat}{L:List α}(hg:h[id]?=some (.o (.cells (L.flatMap enc) e true)))(hn:n=L.length):LsH h (.slice (some ⟨id,0,tag e⟩) n cx) e enc L:=by
 subst hn
 have hl:=dc (e:=e) (enc:=enc) (l:=L) λa _=>henc a
 exact⟨λa _=>henc a,hl,.inr ⟨id,0,cx,_,true,rfl,hg,Sx.cut_all hl⟩⟩
def Ful{α:Type}(h:HL)(x:Value)(e:Nat)(enc:α->Tl)(l:List α):Prop:=∃id,x = .slice (some ⟨id,0,tag e⟩) l.length (l.length+1)/\h[id]?=some (.o (.cells (l.flatMap enc) e true))
def Ful.ls{α:Type}{h:HL}{x:Value}{e:Nat}{enc:α->Tl}{l:List α}(henc:∀a,(enc a).length=e)(hf:Ful h x e enc l):LsH h x e enc l:=by
 obtain⟨id,rfl,h1⟩:=hf
 exact cU henc h1 rfl
def Ful.pre{α:Type}{h h':HL}{x:Value}{e:Nat}{enc:α->Tl}{l:List α}(hf:Ful h x e enc l)(hp:Pre h h'):Ful h' x e enc l:=by
 obtain⟨id,rfl,h1⟩:=hf
 exact⟨id,rfl,hp.get h1⟩
def Ful.cap{α:Type}{h:HL}{x:Value}{e:Nat}{enc:α->Tl}{l:List α}(hf:Ful h x e enc l):capS x=some (Int.ofNat l.length):=by
 obtain⟨id,rfl,h1⟩:=hf
 exact cap_full
abbrev mQ:Value:=.slice none 0 0
def allV(w:Nat)(G:Nat->Mv)(r:Mv)(n:Nat):Prop:=∀c,c<n->vMv (bf (G c) r)=true/\vCl (bQ (bf (G c) r) (clN w c))=true
def allV.succ{w:Nat}{G:Nat->Mv}{r:Mv}{n:Nat}(h:allV w G r n)(h1:vMv (bf (G n) r)=true)(h2:vCl (bQ (bf (G n) r) (clN w n))=true):allV w G r (n+1):=λc hc=>by
 by_cases e:c=n
 ·subst e;exact⟨h1,h2⟩
 ·exact h c (by omega)
structure ConsO(w v:Nat)(l:TA)(G:Nat->Mv):Prop where
 g:kT w v l G
 z:G 0=idM
 ok:∀c,c<4*w*v->okM 2000 (G c)
def GoodA.consO{w v:Nat}(hs:Sh w v){l:TA}{A:TH}(h:GoodA w v l A):ConsO w v l (λc=>A.getD c idM):=by
 have hN:=sh_N hs
 have hg:∀c,c<4*w*v->A[c]?=some (A.getD c idM):=λc hc=>by
  obtain⟨a,ha⟩:=cM (l:=A) (i:=c) (by rw[h.len];exact hc)
  rw[List.getD_eq_getElem?_getD,ha];rfl
 refine⟨λc e n hc he hn=>?_,?_,λc hc=>h.ok _ (qaq (hg c hc))⟩
 ·have h1:=h.cons c e n _ hc he hn (hg c hc)
  rw[hg n (gU hs hc he hn).1]at h1
  exact qan h1
 ·have h1:=h.a0
  rw[hg 0 (by omega)]at h1
  exact qan h1
def fY{w v:Nat}(hs:Sh w v){j:Nat}(hj:j<4*w*v):-1000<=(clN w j).1/\(clN w j).1<=1000/\-1000<=(clN w j).2.1/\(clN w j).2.1<=1000/\(clN w j).2.2<4:=by
 have hN:=sh_N hs
 have d1:j / 4%w<=j / 4:=Nat.mod_le _ _
 have d2:j / 4 / w<=j / 4:=qdi _ _
 refine⟨?_,?_,?_,?_,qbV _ (by omega)⟩
 ·exact Int.le_trans (show(-1000:Int)<=0 by decide) (qaL _)
 ·exact Int.ofNat_le.2 (show j / 4%w<=1000 by omega)
 ·exact Int.le_trans (show(-1000:Int)<=0 by decide) (qaL _)
 ·exact Int.ofNat_le.2 (show j / 4 / w<=1000 by omega)
def BothR(w v:Nat)(l:TA)(r:Mv)(rs:TB)(h':HL):Prop:=
 (rs=[.v mQ,.v mQ,.i 11]/\¬ ∃G,kT w v l G/\G 0=idM)∨
 ∃G,ConsO w v l G/\((rs=[.v mQ,.v mQ,.i 3]/\¬allV w G r (4*w*v))∨
  (∃lx ix,rs=[.v lx,.v ix,.i 0]/\allV w G r (4*w*v)/\Ful h' lx 3 encM (plL w v G r)/\Ful h' ix 3 gw (imL w v G r)))
def both_c{w v:Nat}(hs:Sh w v){l:TA}(hk:(l.map cB).Nodup)(hl0:l.length<=1000){H:HL}{x:Value}(hl:LsH H x 3 encC l)(hck:aW cc aa 74 [.i (.ofNat w),.i (.ofNat v),.v x] (absH ab H) [.i 0] (absH ab H))
  {r:Mv} (hr:okM 16384 r) :
  ∃rs h',aW cc aa 52 ([.i (.ofNat w),.i (.ofNat v),.v x]++mvl r) (absH ab H) rs (absH ab h')/\Pre H h'/\BothR w v l r rs h':=by
 have hN:=sh_N hs
 obtain⟨rs1,h1,c1,hpre1,hrel⟩:=vJ hs hk hl0 hl
 have key:=x52 (ls:=[.i (.ofNat w),.i (.ofNat v),.v x,.i (Int.ofNat r.1),.i r.2.1,.i r.2.2]) (K:=λrs h'=>Pre H h'/\BothR w v l r rs h') (H:=H) (glsI (glsI (glsV hl.good (glsI (glsI (glsI gls0)))))) (by
  unfold f52;simp only[qxh]
  repeat (first|simp(disch:=omega)only[↓qXX]|refine bc hck ?_|refine ah (rg hr (by omega)) ?_)
  refine bc c1 ?_
  rcases hrel with⟨A,id,rfl,hid,hol,hA⟩|⟨rfl,hno⟩
  case inr=>
   refine p_x ?_
   exact⟨hpre1,.inl ⟨by trivial,hno⟩⟩
  refine p_x ?_
  have hG:=hA.consO hs
  generalize hGd:(λc=>A.getD c idM)=G at hG
  have hAG:=hA.eq hs hG.g hG.z
  have hP:(plL w v G r).length=A.length:=by rw[hA.len];simp[plL]
  have hI:(imL w v G r).length=4*w*v:=by simp[imL]
  have hidl:=cf hol
  refine aE (x:=Int.ofNat (4*w*v)) rfl ?_
  refine aE (ey (by omega)) ?_
  refine p_x ?_
  rw[show(Int.ofNat (4*w*v)).toNat=4*w*v from rfl]
  have z0:HO.o (.cells (aD [.int .i64 0,.int .i64 0,.int .u8 0] (4*w*v)) 3 true)=HO.o (.cells ((List.replicate (4*w*v) ((0,0,0):Cl)).flatMap gw) 3 true):=by
   rw[←cQ (enc:=gw) (z:=((0,0,0):Cl)) (n:=4*w*v)]
   rfl
  rw[z0]
  refine aE (x:=Int.ofNat (4*w*v)) rfl ?_
  have hZ:(imL w v G r).length=(List.replicate (4*w*v) ((0,0,0):Cl)).length:=by rw[hI];simp
  have s1:(h1++[HO.o (.cells ((List.replicate (4*w*v) ((0,0,0):Cl)).flatMap gw) 3 true)])[id]?=some (.o (.cells (A.flatMap encM) 3 true)):=Pre.get ⟨_,rfl⟩ hol
  have s2:(h1++[HO.o (.cells ((List.replicate (4*w*v) ((0,0,0):Cl)).flatMap gw) 3 true)])[h1.length]?=some (HO.o (.cells ((List.replicate (4*w*v) ((0,0,0):Cl)).flatMap gw) 3 true)):=aU
  have s3:Pre H (h1++[HO.o (.cells ((List.replicate (4*w*v) ((0,0,0):Cl)).flatMap gw) 3 true)]):=hpre1.app _
  have hix:h1.length≠id:=by omega
  have hHi:H.length<=h1.length:=hpre1.len
  generalize List.replicate (4*w*v) ((0,0,0):Cl)=Z at *
  generalize h1++[HO.o (.cells (Z.flatMap gw) 3 true)]=h2 at *
  generalize h1.length=iX at *
  refine bm (σ:=HL) (4*w*v) (λj _=>[.i (Int.ofNat j)]) (λ_ s=>s) (λj s=>Pre H s/\s[id]?=some (.o (.cells (((plL w v G r).take j++A.drop j).flatMap encM) 3 true))/\s[iX]?=some (.o (.cells (((imL w v G r).take j++Z.drop j).flatMap gw) 3 true))/\allV w G r j) (j0:=0) (s0:=h2) rfl rfl (qaI _) ⟨s3,by simpa using s1,by simpa using s2,λc hc=>by omega⟩ ?_
  clear s1 s2 s3
  rintro j h hj ⟨s3,s1,s2,hall⟩ self hself
  refine p_x ?_
  by_cases hlt:j<4*w*v
  ·rw[bb hlt]
   refine p_x ?_
   have ha:=hAG j hlt
   have hLj:=pF (G:=G) (r:=r) hlt
   have hIj:=imL_get (G:=G) (r:=r) hlt
   have lenP:=sy (j:=j) hP (by rw[hP,hA.len];omega)
   have lenI:=sy (j:=j) hZ (by rw[hI];omega)
   refine bB (cU cE s1 (by rw[lenP,hA.len])) rfl (mid_get ha hP) ?_
   unfold encM
   refine p_x ?_
   refine ah (cellIn (uL w v hs.1 hs.2.1 hs.2.2.1 hs.2.2.2) hlt) ?_
   unfold cellN
   refine p_x ?_
   have okG:okM 2000 (G j):=hA.ok _ (qaq ha)
   have okT:=gg okG hr
   refine ah (then_w okG hr) ?_
   cases hvm:vMv (bf (G j) r)with
   |false=>
    simp only[qaj,if_false]
    repeat (first|simp(disch:=omega)only[↓qXX]|refine dv (enc:=encM) (l:=(plL w v G r).take j++A.drop j) (i:=j) (a:=idM) cE s1 rfl (by rw[lenP,hA.len];exact hlt) (by rw[lenP,hA.len]) rfl ?_)
    exact⟨gW s3 hid,.inr ⟨G,hG,.inl ⟨by trivial,λq=>by rw[(q j hlt).1]at hvm;cases hvm⟩⟩⟩
   |true=>
   simp only[if_true]
   have hvm2:vMv (bf (G j) r)=true:=hvm
   have okT2:=vMv_ok okT hvm2
   have hcell:=fY hs hlt
   have hv2:=hvm2
   generalize hm:bf (G j) r=m at *
   simp only[mvl,qax,qaw]
   refine p_x ?_
   refine dv (enc:=encM) (l:=(plL w v G r).take j++A.drop j) (i:=j) (a:=m) cE s1 rfl (by rw[lenP,hA.len];exact hlt) (by rw[lenP,hA.len]) rfl ?_
   rw[take_set hLj hP]
   have s1':(putE h id 3 encM ((plL w v G r).take (j+1)++A.drop (j+1)))[id]?=some (.o (.cells (((plL w v G r).take (j+1)++A.drop (j+1)).flatMap encM) 3 true)):=dH (cf s1)
   have s2':(putE h id 3 encM ((plL w v G r).take (j+1)++A.drop (j+1)))[iX]?=some (.o (.cells (((imL w v G r).take j++Z.drop j).flatMap gw) 3 true)):=by rw[cX hix];exact s2
   have s3':Pre H (putE h id 3 encM ((plL w v G r).take (j+1)++A.drop (j+1))):=gW s3 hid
   generalize putE h id 3 encM ((plL w v G r).take (j+1)++A.drop (j+1))=h3 at *
   refine p_x ?_
   have lenP1:=sy (j:=j+1) hP (by rw[hP,hA.len];omega)
   refine bB (a:=m) (cU cE s1' (by rw[lenP1,hA.len])) rfl ?_ ?_
   ·rw[qaf (by rw[qa0,hP,hA.len];omega),qbi,qdq (by omega)]
    exact hLj
   unfold encM
   refine p_x ?_
   refine ah (move_w (c:=clN w j) okT2 hcell) ?_
   cases hvc:vCl (bQ m (clN w j))with
   |false=>
    simp only[qaj,if_false]
    repeat (first|simp(disch:=omega)only[↓qXX]|refine dv (enc:=gw) (l:=(imL w v G r).take j++Z.drop j) (i:=j) (a:=((0,0,0):Cl)) lA s2' rfl (by rw[lenI,←hZ,hI];exact hlt) (by rw[lenI,←hZ,hI]) rfl ?_)
    exact⟨gW s3' hHi,.inr ⟨G,hG,.inl ⟨by trivial,λq=>by
     have:=(q j hlt).2
     rw[hm,hvc]at this
     cases this⟩⟩⟩
   |true=>
   simp only[if_true]
   generalize hci:bQ m (clN w j)=ci at *
   simp only[cll,qax,qaw]
   refine p_x ?_
   refine dv (enc:=gw) (l:=(imL w v G r).take j++Z.drop j) (i:=j) (a:=ci) lA s2' rfl (by rw[lenI,←hZ,hI];exact hlt) (by rw[lenI,←hZ,hI]) rfl ?_
   rw[take_set hIj hZ]
   refine p_x ?_
   rw[bA (by omega)]
   refine hself _ hlt ⟨gW s3' hHi,by rw[cX (qb9 hix)];exact s1',dH (cf s2'),hall.succ (by rw[hm];exact hv2) (by rw[hm,hci];exact hvc)⟩
  ·obtain rfl:j=4*w*v:=by omega
   rw[ba (qam _)]
   refine p_x ?_
   rw[qaJ (by rw[hP,hA.len];exact qam _),qbS (by rw[hA.len];exact qam _),qa2]at s1
   rw[qaJ (by rw[hI];exact qam _),qbS (by rw[←hZ,hI];exact qam _),qa2]at s2
   have e1:(plL w v G r).length=4*w*v:=by rw[hP,hA.len]
   refine⟨s3,.inr ⟨G,hG,.inr ⟨_,_,rfl,hall,⟨id,?_,s1⟩,⟨iX,?_,s2⟩⟩⟩⟩
   ·rw[e1]
   ·rw[hI];rfl)
 obtain⟨rs,h',h2,h3,h4⟩:=key
 exact⟨rs,h',h2,h3,h4⟩
section
variable {w v:Nat} {l:TA} {A:TH} {B:Tw} {q:Tz}
def JS.begin{c0:Nat}(h:JS w v l A B q λ_ _=>True):JS w v l A B (q.filter λc=>!Nat.beq c c0) λc e=>c=c0->False:=by
 refine⟨h.a0,h.b0,λc hc=>h.q1 c (qaR.1 hc).1,λc e n hd hc he hn hb hq=>?_,h.bd,h.un⟩
 refine h.dn c e n trivial hc he hn hb λhm=>hq ?_
 rw[qaR]
 refine⟨hm,?_⟩
 rw[qbB,qcv]
 exact λe=>hd (qac e)
def JS.skipP{c0 j:Nat}{P:Nat->Prop}(h:JS w v l A B q λc e=>c=c0->P e)(hn:nbr w v c0 j=none):JS w v l A B q λc e=>c=c0->P e∨e=j:=by
 refine⟨h.a0,h.b0,h.q1,λc e n hd hc he hn' hb hq=>?_,h.bd,h.un⟩
 refine h.dn c e n (λhcc=>?_) hc he hn' hb hq
 rcases hd hcc with hp|rfl
 ·exact hp
 ·subst hcc
  rw[hn]at hn';cases hn'
def JS.seenP{c0 j n:Nat}{a:Mv}{P:Nat->Prop}(h:JS w v l A B q λc e=>c=c0->P e)(hn:nbr w v c0 j=some n)(hb:B[n]?=some true)(ha:A[c0]?=some a)(hm:A[n]?=some (acM w l a c0 n j)):JS w v l A B q λc e=>c=c0->P e∨e=j:=by
 refine⟨h.a0,h.b0,h.q1,λc e n' hd hc he hn' hb' hq=>?_,h.bd,h.un⟩
 by_cases hcc:c=c0/\e=j
 ·obtain⟨rfl,rfl⟩:=hcc
  rw[hn]at hn';cases hn'
  exact⟨hb,a,ha,hm⟩
 ·exact h.dn c e n' (λhc'=>(hd hc').resolve_right λhe'=>hcc ⟨hc',he'⟩) hc he hn' hb' hq
def JS.freshP(hs:Sh w v){c0 j n:Nat}{a:Mv}{P:Nat->Prop}(h:JS w v l A B q λc e=>c=c0->P e)(hla:A.length=4*w*v)(hlb:B.length=4*w*v)(hc0:c0<4*w*v)(hj:j<3)(hn:nbr w v c0 j=some n)(hb0:B[c0]?=some true)(hb:B[n]?=some false)(ha:A[c0]?=some a) :
  JS w v l (A.set n (acM w l a c0 n j)) (B.set n true) (q++[n]) λc e=>c=c0->P e∨e=j:=by
 obtain⟨g1,_,_,_,g5⟩:=gU hs hc0 hj hn
 have hBn:(B.set n true)[n]?=some true:=qaE (by omega)
 have hAn:(A.set n (acM w l a c0 n j))[n]?=some (acM w l a c0 n j):=qaE (by omega)
 have hB:∀c,c≠n->(B.set n true)[c]?=B[c]?:=λc hc=>qav (qb9 hc)
 have hA:∀c,c≠n->(A.set n (acM w l a c0 n j))[c]?=A[c]?:=λc hc=>qav (qb9 hc)
 have h0n:(0:Nat)≠n:=λe=>by have:=h.b0;rw[e,hb]at this;cases this
 have hok:okM (20*(cntT B:Int)) a:=h.bd c0 a hb0 ha
 refine⟨by rw[hA 0 h0n];exact h.a0,by rw[hB 0 h0n];exact h.b0,λc hc=>?_,λc e n' hd hc he hn' hbc hq=>?_,λc a' hbc hac=>?_,λG hG hG0 c a' hbc hac=>?_⟩
 ·rcases qaH.1 hc with hc|hc
  ·have:=h.q1 c hc
   by_cases hcn:c=n
   ·rw[hcn];exact hBn
   ·rw[hB c hcn];exact this
  ·simp only[qay]at hc
   rw[hc];exact hBn
 ·have hcn:c≠n:=λe=>hq (by rw[e];simp)
  have hcq:c∉q:=λhm=>hq (qaO _ hm)
  rw[hB c hcn]at hbc
  by_cases hcc:c=c0/\e=j
  ·obtain⟨rfl,rfl⟩:=hcc
   rw[hn]at hn';cases hn'
   exact⟨hBn,a,by rw[hA c hcn];exact ha,hAn⟩
  ·obtain⟨d1,a1,d2,d3⟩:=h.dn c e n' (λhc'=>(hd hc').resolve_right λhe'=>hcc ⟨hc',he'⟩) hc he hn' hbc hcq
   have hnn:n'≠n:=λe'=>by rw[e',hb]at d1;cases d1
   exact⟨by rw[hB n' hnn];exact d1,a1,by rw[hA c hcn];exact d2,by rw[hA n' hnn];exact d3⟩
 ·rw[eS hb]
  by_cases hcn:c=n
  ·rw[hcn,hAn]at hac
   cases hac
   exact cg (acM_ok hs hc0 hj hn hok (by omega)) (by omega)
  ·rw[hB c hcn]at hbc
   rw[hA c hcn]at hac
   exact cg (h.bd c a' hbc hac) (by omega)
 ·by_cases hcn:c=n
  ·rw[hcn,hAn]at hac
   cases hac
   rw[hcn,hG c0 j n hc0 hj hn,←h.un G hG hG0 c0 a hb0 ha]
  ·rw[hB c hcn]at hbc
   rw[hA c hcn]at hac
   exact h.un G hG hG0 c a' hbc hac
def JS.doneP{c0:Nat}{P:Nat->Prop}(h:JS w v l A B q λc e=>c=c0->P e)(hp:∀e,e<3->P e):JS w v l A B q λ_ _=>True:=
 ⟨h.a0,h.b0,h.q1,λc e n _ hc he hn hb hq=>h.dn c e n (λ_=>hp e he) hc he hn hb hq,h.bd,h.un⟩
def JS.monoP{c0:Nat}{P Q:Nat->Prop}(h:JS w v l A B q λc e=>c=c0->P e)(hp:∀e,Q e->P e):JS w v l A B q λc e=>c=c0->Q e:=
 ⟨h.a0,h.b0,h.q1,λc e n hd hc he hn hb hq=>h.dn c e n (λhc=>hp e (hd hc)) hc he hn hb hq,h.bd,h.un⟩
end
def eK(q k:Nat):Nat:=if k=0 then 0 else if decide (q%2=0)=decide (k=1)then 1 else 2
def mO(q k:Nat):eK q k<3:=by
 unfold eK
 repeat' split
 all_goals omega
def eK_all{q:Nat}(e:Nat)(he:e<3):∃k,k<3/\eK q k=e:=by
 have hq:q%2=0∨q%2=1:=by omega
 have h3:e=0∨e=1∨e=2:=by omega
 rcases hq with hq|hq<;>rcases h3 with rfl|rfl|rfl
 ·exact⟨0,by omega,rfl⟩
 ·exact⟨1,by omega,by simp[eK,hq]⟩
 ·exact⟨2,by omega,by simp[eK,hq]⟩
 ·exact⟨0,by omega,rfl⟩
 ·exact⟨2,by omega,by simp[eK,hq]⟩
 ·exact⟨1,by omega,by simp[eK,hq]⟩
def goP(m:Mv)(p:Int×Int):Int×Int:=(mA m.1*p.1+mB m.1*p.2+6*m.2.1,mC m.1*p.1+mD m.1*p.2+6*m.2.2)
def inX(q:Nat):Int:=match q with
 |0=>3
 |1=>5
 |2=>3
 |_=>1
def inY(q:Nat):Int:=match q with
 |0=>1
 |1=>3
 |2=>5
 |_=>3
def insP(c:Cl):Int×Int:=(6*c.1+inX c.2.2,6*c.2.1+inY c.2.2)
def atQ(x y:Int):Nat:=if y<x/\x+y<6 then 0 else if y<x then 1 else if 6<x+y then 2 else 3
def atP(p:Int×Int):Cl:=(p.1 / 6,p.2 / 6,atQ (p.1 - 6*(p.1 / 6)) (p.2 - 6*(p.2 / 6)))
def quad{q:Nat}(h:q<4):q=0∨q=1∨q=2∨q=3:=by omega
def at_go{m:Mv}{c:Cl}(hm:m.1<8)(hq:c.2.2<4):atP (goP m (insP c))=bQ m c:=by
 obtain⟨t,X,Y⟩:=m
 obtain⟨x,y,q⟩:=c
 simp only at hm hq
 rcases t8 hm with rfl|rfl|rfl|rfl|rfl|rfl|rfl|rfl<;>rcases quad hq with rfl|rfl|rfl|rfl
 all_goals
  simp only[atP,goP,insP,inX,inY,mA,mB,mC,mD,bQ,qT]
  refine qc4 ?_ (qc4 ?_ ?_)
  ·simp;omega
  ·simp;omega
  ·simp only[atQ]
   repeat' split
   all_goals first|rfl|(exfalso;omega)|(exfalso;rename_i h;exact h trivial)
end Go.Am
namespace Go.Am
open Sx
def fix_id{m:Mv}{c:Cl}(hm:m.1<8)(hp:(m.2.1+m.2.2)%2=0)(hq:c.2.2<4)(h:bQ m c=c):m=idM:=by
 obtain⟨t,X,Y⟩:=m
 obtain⟨x,y,q⟩:=c
 simp only at hm hq hp
 unfold bQ at h
 rw[qca,qca]at h
 obtain⟨h1,h2,h3⟩:=h
 rcases t8 hm with rfl|rfl|rfl|rfl|rfl|rfl|rfl|rfl<;>rcases quad hq with rfl|rfl|rfl|rfl
 all_goals
  simp[mA,mB,mC,mD,qT]at h1 h2 h3
 all_goals first
  |(exfalso;omega)
  |(unfold idM;congr 2<;>omega)
def go_then{a b:Mv}(ha:a.1<8)(hb:b.1<8)(p:Int×Int):goP b (goP a p)=goP (bf a b) p:=by
 obtain⟨s,X,Y⟩:=a
 obtain⟨t,U,V⟩:=b
 obtain⟨x,y⟩:=p
 simp only at ha hb
 rcases t8 ha with rfl|rfl|rfl|rfl|rfl|rfl|rfl|rfl<;>rcases t8 hb with rfl|rfl|rfl|rfl|rfl|rfl|rfl|rfl
 all_goals
  simp[goP,bf,mulT,mA,mB,mC,mD]
  omega
def mat_inj{s t:Nat}(hs:s<8)(ht:t<8)(h1:mA s=mA t)(h2:mC s=mC t)(h3:mB s=mB t)(h4:mD s=mD t):s=t:=by
 rcases t8 hs with rfl|rfl|rfl|rfl|rfl|rfl|rfl|rfl<;>rcases t8 ht with rfl|rfl|rfl|rfl|rfl|rfl|rfl|rfl
 all_goals first
  |rfl
  |(exfalso;simp[mA,mB,mC,mD]at h1 h2 h3 h4)
end Go.Am
namespace Go.Am
open Sx Go.Proofs
def nbI(w v c k:Nat):Int:=match nbr w v c (eK (c%4) k)with
 |some n=>Int.ofNat n
 |none=>-1
def mirT(w v c k:Nat):Bool:=match nbr w v c (eK (c%4) k)with
 |some n=>gC 19 (cll (clN w c)++cll (clN w n)) (mvl (ofM (lnC3 (clN w c) (eK (c%4) k))))
 |none=>true
def vU(w v c k:Nat):Bool:=gC 6 [.i (.ofNat w),.i (.ofNat v),.i (.ofNat c),.i (.ofNat k)] [.i (nbI w v c k)]&&(gC 16 (cll (clN w c)++[.i (.ofNat k)]) (cll (nbC (clN w c) (eK (c%4) k)))&&(gC 43 [.i (.ofNat w),.i (.ofNat v),.i (.ofNat c),.i (.ofNat k)] [.i (.ofNat (eK (c%4) k))]&&mirT w v c k))
def tab4(w v:Nat):Bool:=(List.range (4*w*v)).all λc=>gC 15 [.i (.ofNat w),.i (.ofNat v),.i (.ofNat c)] (cll (clN w c))&&(List.range 3).all λk=>vU w v c k
def all4:∀w v:Nat,1<=w->w<=3->1<=v->v<=3->tab4 w v=true:=by
 have key:((List.range 3).all λw=>(List.range 3).all λv=>tab4 (w+1) (v+1))=true:=by kernel_rfl
 intro w v h1 h2 h3 h4
 have h5:=qab.1 key (w - 1) (qah.2 (by omega))
 have h6:=qab.1 h5 (v - 1) (qah.2 (by omega))
 rw[show w - 1+1=w by omega,show v - 1+1=v by omega]at h6
 exact h6
def S3(w v:Nat):Prop:=1<=w/\w<=3/\1<=v/\v<=3
def S3.sh{w v:Nat}(h:S3 w v):Sh w v:=⟨h.1,by have:=h.2.1;omega,h.2.2.1,by have:=h.2.2.2;omega⟩
section
variable {w v c k:Nat}
def mz(h:S3 w v)(hc:c<4*w*v):gC 15 [.i (.ofNat w),.i (.ofNat v),.i (.ofNat c)] (cll (clN w c))=true/\∀k,k<3->vU w v c k=true:=by
 have:=qab.1 (all4 w v h.1 h.2.1 h.2.2.1 h.2.2.2) c (qah.2 hc)
 rw[qaa]at this
 exact⟨this.1,λk hk=>qab.1 this.2 k (qah.2 hk)⟩
def ik(h:S3 w v)(hc:c<4*w*v):Cc 15 [.i (.ofNat w),.i (.ofNat v),.i (.ofNat c)] (cll (clN w c)):=cY (mz h hc).1 rfl (by kernel_rfl) rfl
def ri(h:S3 w v)(hc:c<4*w*v)(hk:k<3):Cc 6 [.i (.ofNat w),.i (.ofNat v),.i (.ofNat c),.i (.ofNat k)] [.i (nbI w v c k)]:=by
 have:=(mz h hc).2 k hk
 unfold vU at this
 rw[qaa]at this
 exact cY this.1 rfl (by kernel_rfl) rfl
def nb(h:S3 w v)(hc:c<4*w*v)(hk:k<3):Cc 16 (cll (clN w c)++[.i (.ofNat k)]) (cll (nbC (clN w c) (eK (c%4) k))):=by
 have:=(mz h hc).2 k hk
 unfold vU at this
 rw[qaa,qaa]at this
 exact cY this.2.1 rfl (by kernel_rfl) rfl
def edge25_c(h:S3 w v)(hc:c<4*w*v)(hk:k<3):Cc 43 [.i (.ofNat w),.i (.ofNat v),.i (.ofNat c),.i (.ofNat k)] [.i (.ofNat (eK (c%4) k))]:=by
 have:=(mz h hc).2 k hk
 unfold vU at this
 rw[qaa,qaa,qaa]at this
 exact cY this.2.2.1 rfl (by kernel_rfl) rfl
def mir25_c(h:S3 w v)(hc:c<4*w*v)(hk:k<3){n:Nat}(hn:nbr w v c (eK (c%4) k)=some n):Cc 19 (cll (clN w c)++cll (clN w n)) (mvl (ofM (lnC3 (clN w c) (eK (c%4) k)))):=by
 have:=(mz h hc).2 k hk
 unfold vU mirT at this
 rw[qaa,qaa,qaa,hn]at this
 exact cY this.2.2.2 rfl (by kernel_rfl) rfl
end
def of0:Int.ofNat 0=0:=rfl
def of1:Int.ofNat 1=1:=rfl
def of2:Int.ofNat 2=2:=rfl
def of3:Int.ofNat 3=3:=rfl
def of4:Int.ofNat 4=4:=rfl
def of5:Int.ofNat 5=5:=rfl
def of6:Int.ofNat 6=6:=rfl
def of7:Int.ofNat 7=7:=rfl
def qL{m:Mv}{x y:Int}(hm:m.1<8)(hX:-100000<=m.2.1/\m.2.1<=100000/\-100000<=m.2.2/\m.2.2<=100000)(hp:-10000000<=x/\x<=10000000/\-10000000<=y/\y<=10000000):Cc 44 (mvl m++[.i x,.i y]) [.i (goP m (x,y)).1,.i (goP m (x,y)).2]:=by
 obtain⟨t,X,Y⟩:=m
 simp only at hm hX
 refine q44 rfl ?_;unfold f44;simp only[qxh]
 simp only[mvl,qax,qaw]
 rcases t8 hm with rfl|rfl|rfl|rfl|rfl|rfl|rfl|rfl
 all_goals
  simp only[of0,of1,of2,of3,of4,of5,of6,of7]
  repeat (first|simp(disch:=omega)only[↓qXX]|refine rq 5 ?_)
  simp only[goP,mA,mB,mC,mD,qaY,Lf.i.injEq,and_true]
  constructor<;>omega
def vp{c:Cl}(hc:c.2.2<4)(hX:-100000<=c.1/\c.1<=100000/\-100000<=c.2.1/\c.2.1<=100000):Cc 49 (cll c) [.i (insP c).1,.i (insP c).2]:=by
 obtain⟨x,y,q⟩:=c
 simp only at hc hX
 refine q49 rfl ?_;unfold f49;simp only[qxh]
 simp only[cll]
 have k1:Cc 73 [.i x,.i y,.i (Int.ofNat q)] (match q with
  |0=>[.i (6*x+3),.i (6*y+3),.i (6*x),.i (6*y),.i (6*x+6),.i (6*y)]
  |1=>[.i (6*x+3),.i (6*y+3),.i (6*x+6),.i (6*y),.i (6*x+6),.i (6*y+6)]
  |2=>[.i (6*x+3),.i (6*y+3),.i (6*x+6),.i (6*y+6),.i (6*x),.i (6*y+6)]
  |_=>[.i (6*x+3),.i (6*y+3),.i (6*x),.i (6*y+6),.i (6*x),.i (6*y)]):=by
  refine q73 rfl ?_;unfold f73;simp only[qxh]
  rcases quad hc with rfl|rfl|rfl|rfl
  all_goals
   simp only[of0,of1,of2,of3,of4,of5,of6,of7]
   repeat (first|simp(disch:=omega)only[↓qXX] )
 rcases quad hc with rfl|rfl|rfl|rfl
 all_goals
  repeat (first|simp(disch:=omega)only[↓qXX]|refine ah k1 ?_)
  simp only[insP,inX,inY,qaY,Lf.i.injEq,and_true]
  constructor<;>omega
def oM{a:Int}(h:-100000000<=a/\a<=100000000):Cc 45 [.i a,.i 6] [.i (a / 6)]:=by
 refine q45 rfl ?_;unfold f45;simp only[qxh]
 by_cases h0:a<0
 ·repeat (first|simp(disch:=omega)only[↓qXX]|rw[p_quo_nn (by omega) (by omega) (by omega)])
  simp only[qaY,Lf.i.injEq,and_true]
  omega
 ·repeat (first|simp(disch:=omega)only[↓qXX]|rw[p_quo_nn (by omega) (by omega) (by omega)])
def at25_c{x y:Int}(h:-100000000<=x/\x<=100000000/\-100000000<=y/\y<=100000000):Cc 48 [.i x,.i y] (cll (atP (x,y))):=by
 refine q48 rfl ?_;unfold f48;simp only[qxh]
 repeat (first|simp(disch:=omega)only[↓qXX]|refine ah (oM (by omega)) ?_)
 have e:cll (atP (x,y))=[.i (x / 6),.i (y / 6),.i (Int.ofNat (atQ (x - 6*(x / 6)) (y - 6*(y / 6))))]:=rfl
 rw[e]
 have r1:0<=x - 6*(x / 6)/\x - 6*(x / 6)<=5:=by omega
 have r2:0<=y - 6*(y / 6)/\y - 6*(y / 6)<=5:=by omega
 generalize x / 6=a at *
 generalize y / 6=b at *
 by_cases h1:y - 6*b<x - 6*a<;>by_cases h2:x - 6*a+(y - 6*b)<6<;>by_cases h3:6<x - 6*a+(y - 6*b)
 all_goals
  first|(exfalso;omega)|skip
  repeat (first|simp(disch:=omega)only[↓qXX])
  try simp only[atQ,h1,h2,h3,and_true,and_false,true_and,false_and,if_true,if_false]
  try rfl
def qO{m:Mv}{c:Cl}(hm:m.1<8)(hX:-100000<=m.2.1/\m.2.1<=100000/\-100000<=m.2.2/\m.2.2<=100000)(hq:c.2.2<4)(hc:-100000<=c.1/\c.1<=100000/\-100000<=c.2.1/\c.2.1<=100000):Cc 21 (mvl m++cll c) (cll (bQ m c)):=by
 refine q21 rfl ?_;unfold f21;simp only[qxh]
 have e:=at_go hm hq
 have hi:-1000000<=(insP c).1/\(insP c).1<=1000000/\-1000000<=(insP c).2/\(insP c).2<=1000000:=by
  obtain⟨x,y,q⟩:=c
  simp only at hq hc
  rcases quad hq with rfl|rfl|rfl|rfl<;>simp only[insP,inX,inY]<;>omega
 have hg:-100000000<=(goP m (insP c)).1/\(goP m (insP c)).1<=100000000/\-100000000<=(goP m (insP c)).2/\(goP m (insP c)).2<=100000000:=by
  generalize insP c=p at *
  obtain⟨t,X,Y⟩:=m
  obtain⟨x,y⟩:=p
  simp only at hm hX hi
  rcases t8 hm with rfl|rfl|rfl|rfl|rfl|rfl|rfl|rfl<;>simp only[goP,mA,mB,mC,mD]<;>omega
 have k1:=vp hq hc
 have k2:=qL (m:=m) (x:=(insP c).1) (y:=(insP c).2) hm hX (by omega)
 have k3:=at25_c (x:=(goP m (insP c)).1) (y:=(goP m (insP c)).2) hg
 have e2:atP ((goP m (insP c)).1,(goP m (insP c)).2)=bQ m c:=e
 rw[e2]at k3
 simp only[mvl,cll,qax,qaw]at k1 k2 k3 ⊢
 repeat (first|simp(disch:=omega)only[↓qXX]|refine ah k1 ?_|refine ah k2 ?_|refine ah k3 ?_)
def eqs2I{a b c d:Int}{K:To}:P1.eqs [(.i a,.i b),(.i c,.i d)] (@hid _ ⟨K⟩)=K (decide (a=b/\c=d)):=by
 show K (bP _)=_
 have e:bP [(.i a,.i b),(.i c,.i d)]=decide (a=b/\c=d):=by
  rw[qby]
  simp[bP,fK]
 rw[e]
def then25_c{a b:Mv}(ha:okM 30000 a)(hb:okM 30000 b):Cc 18 (mvl a++mvl b) (mvl (bf a b)):=by
 obtain⟨a1,a2,a3,a4,a5,a6⟩:=ha
 obtain⟨b1,b2,b3,b4,b5,b6⟩:=hb
 have hab:=gg (n:=30000) (k:=30000) ⟨a1,a2,a3,a4,a5,a6⟩ ⟨b1,b2,b3,b4,b5,b6⟩
 obtain⟨g1,g2,g3,g4,g5,_⟩:=hab
 refine q18 rfl ?_;unfold f18;simp only[qxh]
 have bd:∀(x y:Int),(0<=x/\x<=6/\0<=y/\y<=6)->-1000000<=(goP a (x,y)).1/\(goP a (x,y)).1<=1000000/\-1000000<=(goP a (x,y)).2/\(goP a (x,y)).2<=1000000:=by
  intro x y h
  obtain⟨t,X,Y⟩:=a
  simp only at a1 a2 a3 a4 a5
  rcases t8 a1 with rfl|rfl|rfl|rfl|rfl|rfl|rfl|rfl<;>simp only[goP,mA,mB,mC,mD]<;>omega
 have k1:∀(x y:Int),(0<=x/\x<=6/\0<=y/\y<=6)->Cc 44 (mvl a++[.i x,.i y]) [.i (goP a (x,y)).1,.i (goP a (x,y)).2]:=λx y h=>qL a1 (by omega) (by omega)
 have k2:∀(x y:Int),(0<=x/\x<=6/\0<=y/\y<=6)->Cc 44 (mvl b++[.i (goP a (x,y)).1,.i (goP a (x,y)).2]) [.i (goP (bf a b) (x,y)).1,.i (goP (bf a b) (x,y)).2]:=λx y h=>by
  have:=qL (m:=b) (x:=(goP a (x,y)).1) (y:=(goP a (x,y)).2) b1 (by omega) (by have:=bd x y h;omega)
  rw[show goP b ((goP a (x,y)).1,(goP a (x,y)).2)=goP (bf a b) (x,y)from go_then a1 b1 (x,y)]at this
  exact this
 generalize bf a b=G at *
 have f0:goP G (0,0)=(6*G.2.1,6*G.2.2):=by simp[goP]
 have f1:∀t X Y,goP (t,X,Y) (6,0)=(mA t*6+6*X,mC t*6+6*Y):=λt X Y=>by simp[goP]
 have f2:∀t X Y,goP (t,X,Y) (0,6)=(mB t*6+6*X,mD t*6+6*Y):=λt X Y=>by simp[goP]
 have p1:=k1 0 0 (by omega)
 have p2:=k1 6 0 (by omega)
 have p3:=k1 0 6 (by omega)
 have p4:=k2 0 0 (by omega)
 have p5:=k2 6 0 (by omega)
 have p6:=k2 0 6 (by omega)
 obtain⟨t,X,Y⟩:=G
 simp only at g1 g2 g3 g4 g5 f0
 rw[f0]at p4
 rw[f1 t X Y]at p5
 rw[f2 t X Y]at p6
 simp only[mvl,qax,qaw]at p1 p2 p3 p4 p5 p6 ⊢
 clear bd k1 k2
 generalize goP a (0,0)=q0 at *
 generalize goP a (6,0)=q1 at *
 generalize goP a (0,6)=q2 at *
 repeat (first|simp(disch:=omega)only[↓qXX]|refine ah p1 ?_|refine ah p2 ?_|refine ah p3 ?_|refine ah p4 ?_|refine ah p5 ?_|refine ah p6 ?_)
 refine bm (σ:=Unit) 8 (λj _=>[.i (Int.ofNat j)]) (λ_ _=>_) (λj _=>j<=t) (j0:=0) (s0:=()) rfl rfl (qaI _) (qaI _) ?_
 intro j _ hj8 hjt self hself
 have hj:j<8:=by omega
 have s1:=qL (m:=(j,X,Y)) (x:=6) (y:=0) hj (by show -100000<=X/\X<=100000/\-100000<=Y/\Y<=100000;omega) (by omega)
 have s2:=qL (m:=(j,X,Y)) (x:=0) (y:=6) hj (by show -100000<=X/\X<=100000/\-100000<=Y/\Y<=100000;omega) (by omega)
 rw[f1]at s1
 rw[f2]at s2
 have d1:=oM (a:=6*X) (by omega)
 have d2:=oM (a:=6*Y) (by omega)
 rw[show 6*X / 6=X by omega]at d1
 rw[show 6*Y / 6=Y by omega]at d2
 simp only[mvl,qax,qaw]at s1 s2
 have hn:(0:Int)<=Int.ofNat j/\Int.ofNat j<=7:=⟨qaL _,by show(j:Int)<=7;omega⟩
 have go:j≠t->self [.i (Int.ofNat j+1)] []:=λh=>hself () (by omega) (by omega)
 have inj:=λh1 h2 h3 h4=>mat_inj (s:=j) (t:=t) hj g1 h1 h2 h3 h4
 repeat (first|simp(disch:=omega)only[↓qXX]|refine ah d1 ?_|refine ah d2 ?_|refine ah s1 ?_)
 by_cases e1:mA j=mA t/\mC j=mC t
 ·obtain⟨e1,e2⟩:=e1
  rw[←e1,←e2]
  repeat (first|simp(disch:=omega)only[↓qXX]|refine ah s2 ?_)
  by_cases e3:mB j=mB t/\mD j=mD t
  ·obtain⟨e3,e4⟩:=e3
   obtain rfl:=inj e1 e2 e3 e4
   repeat (first|simp(disch:=omega)only[↓qXX])
  ·rw[eqs2I,qdo (by omega)]
   repeat (first|simp(disch:=omega)only[↓qXX])
   exact go λe=>e3 (by rw[e];exact⟨rfl,rfl⟩)
 ·rw[eqs2I,qdo (by omega)]
  repeat (first|simp(disch:=omega)only[↓qXX])
  exact go λe=>e1 (by rw[e];exact⟨rfl,rfl⟩)
def oN{q k:Nat}(h:k<3):eK q (eK q k)=k:=by
 have h3:k=0∨k=1∨k=2:=by omega
 have hq:q%2=0∨q%2=1:=by omega
 rcases hq with hq|hq<;>rcases h3 with rfl|rfl|rfl<;>simp[eK,hq]
def nbC_inj{c:Cl}{e f:Nat}(hq:c.2.2<4)(he:e<3)(hf:f<3)(h:nbC c e=nbC c f):e=f:=by
 obtain⟨x,y,q⟩:=c
 simp only at hq
 have h1:e=0∨e=1∨e=2:=by omega
 have h2:f=0∨f=1∨f=2:=by omega
 rcases quad hq with rfl|rfl|rfl|rfl<;>rcases h1 with rfl|rfl|rfl<;>rcases h2 with rfl|rfl|rfl
 all_goals first
  |rfl
  |(exfalso;simp[nbC]at h;done)
  |(exfalso;simp[nbC]at h;omega)
def nbr_inj{w v:Nat}(hs:Sh w v){c e f n:Nat}(hc:c<4*w*v)(he:e<3)(hf:f<3)(h1:nbr w v c e=some n)(h2:nbr w v c f=some n):e=f:=by
 obtain⟨_,_,_,a,_⟩:=gU hs hc he h1
 obtain⟨_,_,_,b,_⟩:=gU hs hc hf h2
 exact nbC_inj (c:=clN w c) (qbV _ (by omega)) he hf (a.symm.trans b)
def kOf(l:TA)(u e:Nat):Int:=l.foldl (λa c=>if cB c=((Int.ofNat u,Int.ofNat e):Ku)then c.2.2 else a) 0
def sq{l:TA}{c:Crs}{u e:Nat}:kOf (l++[c]) u e=if cB c=((Int.ofNat u,Int.ofNat e):Ku)then c.2.2 else kOf l u e:=by
 unfold kOf
 rw[List.foldl_append]
 rfl
def kOf_cr{l:TA}(hk:∀c∈l,c.2.2≠0){u e:Nat}:kOf l u e≠0↔isCr l u e=true:=by
 have key:∀(l:TA) (a:Int),(∀c∈l,c.2.2≠0)->(l.foldl (λa c=>if cB c=((Int.ofNat u,Int.ofNat e):Ku)then c.2.2 else a) a≠0↔a≠0∨((Int.ofNat u,Int.ofNat e):Ku)∈l.map cB):=by
  intro l
  induction l with
  |nil=>intro a _;simp
  |cons c l ih=>
   intro a h
   rw[qb1,ih _ λd hd=>h d (qao _ hd),qat,qap]
   have hc:=h c (by simp)
   by_cases h1:cB c=((Int.ofNat u,Int.ofNat e):Ku)
   ·rw[qdq h1]
    exact⟨λ_=>.inr (.inl h1.symm),λ_=>.inl hc⟩
   ·rw[qdr h1]
    exact⟨λh=>h.imp id .inr,λh=>h.imp id λh=>h.resolve_left λe=>h1 e.symm⟩
 unfold isCr kOf
 rw[qdn,key l 0 hk]
 simp
def kAt(w v:Nat)(l:TA)(c k:Nat):Int:=match nbr w v c (eK (c%4) k)with
 |some n=>kOf l (min c n) (eK (c%4) k)
 |none=>0
def tabL(w v:Nat)(l:TA):List Int:=(List.range (12*w*v)).map λi=>kAt w v l (i / 3) (i%3)
def iO{w v:Nat}{l:TA}:(tabL w v l).length=12*w*v:=by simp[tabL]
def pW{w v:Nat}{l:TA}{c k:Nat}(hc:c<4*w*v)(hk:k<3):(tabL w v l)[3*c+k]?=some (kAt w v l c k):=by
 have:12*w*v=3*(4*w*v):=by rw[show 12*w*v=3*4*w*v by rfl,qbH 3 4 w,qbH 3 (4*w) v]
 unfold tabL
 rw[qaA,qba (by omega)]
 show some (kAt w v l ((3*c+k) / 3) ((3*c+k)%3))=_
 rw[show(3*c+k) / 3=c by omega,show(3*c+k)%3=k by omega]
def uM{w v:Nat}:tabL w v []=List.replicate (12*w*v) 0:=by
 unfold tabL
 rw[qcC]
 refine⟨by simp,λx hx=>?_⟩
 obtain⟨i,_,rfl⟩:=qaN.1 hx
 unfold kAt
 split<;>rfl
def tab_step{w v:Nat}(hs:Sh w v){l:TA}{u e n:Nat}{kd:Int}(hu:u<4*w*v)(he:e<3)(hn:nbr w v u e=some n)(hlt:u<n) :
  tabL w v (l++[(Int.ofNat u,Int.ofNat e,kd)])=((tabL w v l).set (3*u+eK (u%4) e) kd).set (3*n+eK (n%4) e) kd:=by
 obtain⟨g1,g2,_,_,g5⟩:=gU hs hu he hn
 have k1:=mO (u%4) e
 have k2:=mO (n%4) e
 have i1:=oN (q:=u%4) he
 have i2:=oN (q:=n%4) he
 have h12:12*w*v=3*(4*w*v):=by rw[show 12*w*v=3*4*w*v by rfl,qbH 3 4 w,qbH 3 (4*w) v]
 refine qaT λi=>?_
 by_cases hi:i<12*w*v
 case neg=>rw[qae (by rw[iO];omega),qae (by rw[qbl,qbl,iO];omega)]
 obtain⟨c,k,hc,hk,rfl⟩ : ∃c k,c<4*w*v/\k<3/\i=3*c+k:=⟨i / 3,i%3,by omega,by omega,by omega⟩
 rw[pW hc hk,qaD,qaD,qbl,iO,pW hc hk,qdq (show 3*n+eK (n%4) e<12*w*v by omega),qdq (show 3*u+eK (u%4) e<12*w*v by omega)]
 have hkey:∀a f:Nat,cB (Int.ofNat u,Int.ofNat e,kd)=((Int.ofNat a,Int.ofNat f):Ku)↔u=a/\e=f:=by
  intro a f
  unfold cB
  rw[qca]
  exact⟨λh=>⟨qcO h.1,qcO h.2⟩,λh=>⟨by rw[h.1],by rw[h.2]⟩⟩
 have hkk:=oN (q:=c%4) hk
 have hke:=mO (c%4) k
 unfold kAt
 by_cases h1:3*n+eK (n%4) e=3*c+k
 ·obtain rfl:c=n:=by omega
  have:eK (c%4) k=e:=by rw[show k=eK (c%4) e by omega,i2]
  rw[qdq h1,this,g2]
  simp only
  rw[sq,qdq ((hkey _ _).2 ⟨by omega,rfl⟩)]
 ·rw[qdr h1]
  by_cases h2:3*u+eK (u%4) e=3*c+k
  ·obtain rfl:c=u:=by omega
   have:eK (c%4) k=e:=by rw[show k=eK (c%4) e by omega,i1]
   rw[qdq h2,this,hn]
   simp only
   rw[sq,qdq ((hkey _ _).2 ⟨by omega,rfl⟩)]
  ·rw[qdr h2]
   cases hx:nbr w v c (eK (c%4) k)with
   |none=>rfl
   |some m=>
    simp only
    rw[sq,qdr ?_]
    rw[hkey]
    rintro⟨r1,r2⟩
    rw[←r2]at hx
    have hkk:eK (c%4) e=k:=by rw[r2];exact hkk
    by_cases hcm:c<=m
    ·have:c=u:=by omega
     subst this
     omega
    ·have hm:m=u:=by omega
     subst hm
     obtain⟨_,f2,_⟩:=gU hs hc he hx
     rw[hn]at f2
     cases f2
     omega
def lV{a b:Nat}{K:Tu}(h:a*b<=1000000000):P1.ari .mul .i64 (Int.ofNat a) (Int.ofNat b) (@hid _ ⟨K⟩)=K (Int.ofNat (a*b)):=by
 have e:Int.ofNat a*Int.ofNat b=Int.ofNat (a*b):=rfl
 rw[p_mul (by rw[e];show(-9223372036854775808:Int)<=((a*b:Nat):Int);omega) (by rw[e];show((a*b:Nat):Int)<=9223372036854775807;omega),e]
def mul_3{b:Nat}{K:Tu}(h:b<=100000000):P1.ari .mul .i64 3 (Int.ofNat b) (@hid _ ⟨K⟩)=K (Int.ofNat (3*b)):=lV (a:=3) (by omega)
def mul_4{b:Nat}{K:Tu}(h:b<=100000000):P1.ari .mul .i64 4 (Int.ofNat b) (@hid _ ⟨K⟩)=K (Int.ofNat (4*b)):=lV (a:=4) (by omega)
def mul_12{b:Nat}{K:Tu}(h:b<=10000000):P1.ari .mul .i64 12 (Int.ofNat b) (@hid _ ⟨K⟩)=K (Int.ofNat (12*b)):=lV (a:=12) (by omega)
def tt{a b:Nat}{K:Tu}(h:a+b<=1000000000):P1.ari .add .i64 (Int.ofNat a) (Int.ofNat b) (@hid _ ⟨K⟩)=K (Int.ofNat (a+b)):=by
 have e:Int.ofNat a+Int.ofNat b=Int.ofNat (a+b):=rfl
 rw[p_add (by rw[e];show(-9223372036854775808:Int)<=((a+b:Nat):Int);omega) (by rw[e];show((a+b:Nat):Int)<=9223372036854775807;omega),e]
def enc8(k:Int):Tl:=[.int .u8 k]
def kE(k:Int):(enc8 k).length=1:=rfl
def VC(w v:Nat)(c:Crs):Prop:=∃u e n:Nat,c.1=Int.ofNat u/\c.2.1=Int.ofNat e/\u<4*w*v/\e<3/\nbr w v u e=some n/\u<n/\0<=c.2.2/\c.2.2<=255
abbrev tblk(T:List Int):HO:=.o (.cells (T.flatMap enc8) 1 true)
def S3.n{w v:Nat}(h:S3 w v):4*w<=12/\4*w*v<=36/\12*w*v<=108/\w*v<=9:=by
 obtain⟨h1,h2,h3,h4⟩:=h
 have:w*v<=3*3:=qdl h2 h4
 rw[qbH,qbH]
 omega
def if_skip{α:Type}{j k:Nat}{a b:α}(h:j≠k):(if j+1<=k then a else b)=if j<=k then a else b:=by
 by_cases h1:j+1<=k
 ·rw[qdq h1,qdq (by omega)]
 ·rw[qdr h1,qdr (by omega)]
def rL{w v:Nat}(h3:S3 w v){l:TA}{H:HL}{x:Value}(hl:LsH H x 3 encC l)(hv:∀c∈l,VC w v c)(hn:l.length<=1000) :
  aW cc aa 17 [.i (.ofNat w),.i (.ofNat v),.v x] (absH ab H) [.v (.slice (some ⟨H.length,0,tag 1⟩) (12*w*v) (12*w*v+1))] (absH ab (H++[tblk (tabL w v l)])):=by
 have hs:=h3.sh
 obtain⟨b1,b2,b3,b4⟩:=h3.n
 exact xK x17 (glsI (glsI (glsV hl.good gls0))) (by
  unfold f17;simp only[qxh]
  refine p_x ?_
  rw[mul_12 (by omega)]
  try simp(disch:=omega)only[↓qXX]
  rw[lV (by omega)]
  try simp(disch:=omega)only[↓qXX]
  refine aE (ey (by omega)) ?_
  refine p_x ?_
  rw[show(Int.ofNat (12*w*v)).toNat=12*w*v from rfl]
  have z0:HO.o (.cells (aD [.int .u8 0] (12*w*v)) 1 true)=tblk (tabL w v (l.take 0)):=by
   rw[qcz,uM]
   unfold tblk
   rw[←cQ (enc:=enc8) (z:=0) (n:=12*w*v)]
   rfl
  rw[z0]
  refine bm (σ:=Unit) l.length (λj _=>[.i (Int.ofNat j)]) (λj _=>H++[tblk (tabL w v (l.take j))]) (λ_ _=>True) (j0:=0) (s0:=()) rfl rfl (qaI _) trivial ?_
  intro i _ hi _ self hself
  refine p_x ?_
  refine cC hl ?_
  by_cases hlt:i<l.length
  case neg=>
   obtain rfl:i=l.length:=by omega
   rw[ba (qam _)]
   refine p_x ?_
   exact⟨by trivial,by rw[qc8]⟩
  rw[bb hlt]
  refine p_x ?_
  obtain⟨c,hc⟩:=cM hlt
  have hl':=hl.pre (h':=H++[tblk (tabL w v (l.take i))]) ⟨_,rfl⟩
  refine bB hl' rfl hc ?_
  obtain⟨u,e,n,q1,q2,hu,he,hnn,hun,q3,q4⟩:=hv c (qaq hc)
  have hstep:tabL w v (l.take (i+1))=((tabL w v (l.take i)).set (3*u+eK (u%4) e) c.2.2).set (3*n+eK (n%4) e) c.2.2:=by
   rw[qc0,hc]
   have:=tab_step (l:=l.take i) (kd:=c.2.2) hs hu he hnn hun
   rw[←this]
   show tabL w v (l.take i++[c])=_
   rw[←q1,←q2]
  obtain⟨g1,g2,_,_,g5⟩:=gU hs hu he hnn
  unfold encC
  refine p_x ?_
  rw[q1,q2]
  have hk0:=mO (u%4) e
  have hm0:=mO (n%4) e
  have hkk:=oN (q:=u%4) he
  have hmm:=oN (q:=n%4) he
  have hT:(tabL w v (l.take i)).length=12*w*v:=iO
  have hself:self [.i (Int.ofNat i+1)] (H++[tblk (tabL w v (l.take (i+1)))]):=hself () hlt trivial
  generalize tabL w v (l.take i)=T at *
  generalize tabL w v (l.take (i+1))=T' at *
  have h12:12*w*v=3*(4*w*v):=by rw[show 12*w*v=3*4*w*v by rfl,qbH 3 4 w,qbH 3 (4*w) v]
  have eu:Int.ofNat e<=255/\(0:Int)<=Int.ofNat e:=⟨by show(e:Int)<=255;omega,qaL _⟩
  refine bm (σ:=Unit) 3 (λj _=>[.i (Int.ofNat j)]) (λj _=>H++[tblk (if j<=eK (u%4) e then T else T')]) (λ_ _=>True) (j0:=0) (s0:=()) rfl (by rw[qdq (qaI _)]) (qaI _) trivial ?_
  intro j _ hj _ self2 hself2
  refine p_x ?_
  by_cases hj3:j<3
  case neg=>
   obtain rfl:j=3:=by omega
   rw[p_lss_f (show(3:Int)<=Int.ofNat 3 from qb4 _)]
   refine p_x ?_
   rw[bA (by omega),qdr (by omega)]
   exact hself
  rw[p_lss_t (show Int.ofNat j<3 by show(j:Int)<3;omega)]
  refine p_x ?_
  refine ah (ri h3 hu hj3) ?_
  have hskip:j≠eK (u%4) e->self2 [.i (Int.ofNat j+1)] (H++[tblk (if j<=eK (u%4) e then T else T')]):=by
   intro hne
   have:=hself2 () hj3 trivial
   rw[if_skip hne]at this
   exact this
  cases hx:nbr w v u (eK (u%4) j)with
  |none=>
   rw[show nbI w v u j = -1 by unfold nbI;rw[hx]]
   refine p_x ?_
   rw[bA (by omega)]
   refine hskip λe=>?_
   rw[e,hkk,hnn]at hx
   cases hx
  |some m=>
   rw[show nbI w v u j=Int.ofNat m by unfold nbI;rw[hx]]
   refine p_x ?_
   rw[p_lss_f (show(0:Int)<=Int.ofNat m from qaL m)]
   refine p_x ?_
   refine ah (edge25_c h3 hu hj3) ?_
   refine p_x ?_
   by_cases hk:j=eK (u%4) e
   case neg=>
    rw[p_neq_t (λh=>hk (by rw[←qcO h,oN hj3]))]
    refine p_x ?_
    rw[bA (by omega)]
    exact hskip hk
   rw[p_neq_f (by rw[hk,hkk])]
   refine p_x ?_
   have hxe:=hx
   rw[hk,hkk,hnn]at hxe
   cases hxe
   rw[mul_3 (by omega)]
   try simp(disch:=omega)only[↓qXX]
   rw[tt (by omega)]
   try simp(disch:=omega)only[↓qXX]
   rw[qdq (by omega)]
   have hgT:(H++[tblk T])[H.length]?=some (tblk T):=aU
   refine dv (enc:=enc8) (l:=T) (i:=3*u+j) (a:=c.2.2) kE hgT rfl (by omega) hT rfl ?_
   unfold putE
   rw[dj]
   try simp(disch:=omega)only[↓qXX]
   have hm1:(T.set (3*u+j) c.2.2).length=12*w*v:=by rw[qbl,hT]
   rw[←hk]at hstep
   generalize hT1:T.set (3*u+j) c.2.2=T1 at *
   refine bm (σ:=Unit) 3 (λj _=>[.i (Int.ofNat j)]) (λj _=>H++[tblk (if j<=eK (n%4) e then T1 else T')]) (λ_ _=>True) (j0:=0) (s0:=()) rfl (by rw[qdq (qaI _)]) (qaI _) trivial ?_
   intro k _ hk3 _ self3 hself3
   refine p_x ?_
   by_cases hk3':k<3
   case neg=>
    obtain rfl:k=3:=by omega
    rw[p_lss_f (show(3:Int)<=Int.ofNat 3 from qb4 _)]
    refine p_x ?_
    rw[bA (by omega),qdr (by omega)]
    have:=hself2 () hj3 trivial
    rw[qdr (by omega)]at this
    exact this
   rw[p_lss_t (show Int.ofNat k<3 by show(k:Int)<3;omega)]
   refine p_x ?_
   refine ah (ri h3 g1 hk3') ?_
   by_cases hkm:k=eK (n%4) e
   ·rw[show nbI w v n k=Int.ofNat u by unfold nbI;rw[hkm,hmm,g2]]
    refine p_x ?_
    rw[mul_3 (by omega)]
    try simp(disch:=omega)only[↓qXX]
    rw[tt (by omega)]
    try simp(disch:=omega)only[↓qXX]
    rw[qdq (by omega)]
    have hgT:(H++[tblk T1])[H.length]?=some (tblk T1):=aU
    refine dv (enc:=enc8) (l:=T1) (i:=3*n+k) (a:=c.2.2) kE hgT rfl (by omega) hm1 rfl ?_
    unfold putE
    rw[dj]
    try simp(disch:=omega)only[↓qXX]
    rw[bA (by omega)]
    have:=hself3 () hk3' trivial
    rw[qdr (by omega),hstep,←hkm]at this
    exact this
   ·have hne:nbI w v n k≠Int.ofNat u:=by
     unfold nbI
     cases hy:nbr w v n (eK (n%4) k)with
     |none=>exact λh=>by cases h
     |some z=>
      intro h
      obtain rfl:=qcO h
      have:=nbr_inj hs g1 (mO _ _) he hy g2
      exact hkm (by rw[←this,oN hk3'])
    simp(disch:=omega)only[↓qXX]
    try rw[p_eql_f hne]
    try simp(disch:=omega)only[↓qXX]
    rw[bA (by omega)]
    have:=hself3 () hk3' trivial
    rw[if_skip hkm]at this
    exact this)
end Go.Am
end

/-
  PART 6 OF THE PROOF (no conditions).
-/
import Derived.Test.YtfkllblnkmpklaaGreatDoorPF5
set_option linter.unusedSectionVars false
set_option linter.unusedSimpArgs false
set_option linter.unusedVariables false
set_option linter.constructorNameAsVariable false
set_option linter.defProp false
noncomputable section
set_option maxRecDepth 100000
set_option maxHeartbeats 16000000
namespace Go.Am
open Sx Go.Proofs
instance val0 : Val := ⟨λ_ => 0⟩
instance kno0:Kno:=KnoC cc neuN
def mixed:cc.P.follows .mixedOrders=true:=by kernel_rfl
def jz(g:Nat)(vs:Tl)(h:cc.G g=some vs):vs.all gfl=true:=by
 unfold cc at h
 simp only at h
 split at h<;>first|(cases h;done)|(obtain rfl:=qap h;kernel_rfl)
def tI:DrOk cc drN:=drOf_ok neuN_ok (λ_ _ _ _ _ (h:_/\_)=>h.1)
abbrev Ent(k:Nat)(g:FB):Prop:=qW cc ac aa k g
abbrev Cok(c:ae):Prop:=CallBOk cc ac aa c
def xU(f:TQ)(sg:Sig)(ls rs:TE)(H':Ts)(hs:ac f=some sg)(hp:sg.plain=true)(hc:aw cc ac f ls [] rs H'):∀H,aw cc ac f ls H rs H:=ct_of mixed jz hs hp hc
def oz{k:Nat}{F:(R HT:Type)->Alg R HT->TE->HT->(TE->HT->R)->R}{fn:Fn1}(h2:F=λR HT A ls h K=>al A (xc k) ac drN fn ls h K)(h3:FnIs (xc k) ac k fn){c:ae}(hc:Cok c){l:List (Nat×FB)}(hl:∀p∈l,Ent p.1 p.2):Ent k (F RT HTr (BA ac aa (tblF l c))):=by
 intro ls h K w hls hk
 rw[h2]at hk
 obtain⟨rs,h',a1,_,a3⟩:=rI (BA_ok (w:=w) (wy hc hl)) tI h3 hls hk
 exact⟨rs,h',a1,a3⟩
def aN:∀p∈([]:List (Nat×FB)),Ent p.1 p.2:=λ_ h=>by cases h
def aC{k:Nat}{g:FB}{l:List (Nat×FB)}(h:Ent k g)(t:∀p∈l,Ent p.1 p.2):∀p∈(k,g) :: l,Ent p.1 p.2:=λp hp=>by
 rcases qak.1 hp with rfl|hp
 ·exact h
 ·exact t p hp
def ent_ro{k:Nat}{g:FB}{sg:Sig}(h:Ent k g)(h4:ac k=some sg)(h5:sg.rs.all SK.plain=true)(h6:neuN k=none):Ent k (memoR g):=memoR_ok (λls0 rs H0 H' H σ hc hb hl=>call_ro mixed jz h4 h5 h6 σ hc hb hl) h
def ak{k:Nat}{g:FB}{sg:Sig}(h:Ent k g)(h4:ac k=some sg)(h5:sg.plain=true):Ent k (memo g):=memo_ok xU h h4 h5
abbrev o_k(k:Nat)(w:ae->FB):Prop:=∀{c:ae},Cok c->Ent k (w c)
abbrev E_L(l:ae->List (Nat×FB)):Prop:=∀{c:ae},Cok c->∀p∈l c,Ent p.1 p.2
def a_N:E_L λ_=>[]:=λ_=>aN
def a_C{k:Nat}{w:ae->FB}{l:ae->List (Nat×FB)}(h:o_k k w)(t:E_L l):E_L λc=>(k,w c) :: l c:=λhc=>aC (h hc) (t hc)
def o_z{k:Nat}{F:(R HT:Type)->Alg R HT->TE->HT->(TE->HT->R)->R}{fn:Fn1}(h2:F=λR HT A ls h K=>al A (xc k) ac drN fn ls h K)(h3:FnIs (xc k) ac k fn){l:ae->List (Nat×FB)}(hl:E_L l):o_k k λc=>F RT HTr (BA ac aa (tblF (l c) c)):=λhc=>oz h2 h3 hc (hl hc)
def a_h{k:Nat}{g:ae->FB}{sg:Sig}(h:o_k k g)(h4:ac k=some sg:=by rfl)(h5:sg.plain=true:=by kernel_rfl):o_k k λc=>memo (g c):=λhc=>ak (h hc) h4 h5
abbrev b_T(l:List (Nat×FB))(c:ae):=BA ac aa (tblF l c)
def w35(c:ae):FB:=memo (f35 (b_T [] c))
def ok35:o_k 35 w35:=a_h (o_z e35 i35 a_N)
def w68(c:ae):FB:=memo (f68 (b_T [] c))
def ok68:o_k 68 w68:=a_h (o_z e68 i68 a_N)
def w34(c:ae):FB:=memo (f34 (b_T [(35,w35 c),(68,w68 c)] c))
def ok34:o_k 34 w34:=a_h (o_z e34 i34 (a_C ok35 (a_C ok68 a_N)))
def w69(c:ae):FB:=memo (f69 (b_T [(68,w68 c)] c))
def ok69:o_k 69 w69:=a_h (o_z e69 i69 (a_C ok68 a_N))
def w36(c:ae):FB:=memo (f36 (b_T [(68,w68 c),(69,w69 c)] c))
def ok36:o_k 36 w36:=a_h (o_z e36 i36 (a_C ok68 (a_C ok69 a_N)))
def w37(c:ae):FB:=memo (f37 (b_T [(35,w35 c)] c))
def ok37:o_k 37 w37:=a_h (o_z e37 i37 (a_C ok35 a_N))
def w13(c:ae):FB:=memo (f13 (b_T [(34,w34 c),(35,w35 c),(36,w36 c),(37,w37 c)] c))
def ok13:o_k 13 w13:=a_h (o_z e13 i13 (a_C ok34 (a_C ok35 (a_C ok36 (a_C ok37 a_N)))))
def w33(c:ae):FB:=memo (f33 (b_T [] c))
def ok33:o_k 33 w33:=a_h (o_z e33 i33 a_N)
def w12(c:ae):FB:=memo (f12 (b_T [(13,w13 c),(33,w33 c)] c))
def ok12:o_k 12 w12:=a_h (o_z e12 i12 (a_C ok13 (a_C ok33 a_N)))
def w10(c:ae):FB:=f10 (b_T [(12,w12 c)] c)
def ok10:o_k 10 w10:=o_z e10 i10 (a_C ok12 a_N)
def w41(c:ae):FB:=f41 (b_T [] c)
def ok41:o_k 41 w41:=o_z e41 i41 a_N
def w42(c:ae):FB:=memo (f42 (b_T [(35,w35 c),(69,w69 c)] c))
def ok42:o_k 42 w42:=a_h (o_z e42 i42 (a_C ok35 (a_C ok69 a_N)))
def w71(c:ae):FB:=memo (f71 (b_T [] c))
def ok71:o_k 71 w71:=a_h (o_z e71 i71 a_N)
def w43(c:ae):FB:=memo (f43 (b_T [(35,w35 c),(37,w37 c),(71,w71 c)] c))
def ok43:o_k 43 w43:=a_h (o_z e43 i43 (a_C ok35 (a_C ok37 (a_C ok71 a_N))))
def w72(c:ae):FB:=memo (f72 (b_T [(71,w71 c)] c))
def ok72:o_k 72 w72:=a_h (o_z e72 i72 (a_C ok71 a_N))
def w44(c:ae):FB:=memo (f44 (b_T [(71,w71 c),(72,w72 c)] c))
def ok44:o_k 44 w44:=a_h (o_z e44 i44 (a_C ok71 (a_C ok72 a_N)))
def w45(c:ae):FB:=memo (f45 (b_T [(36,w36 c),(72,w72 c)] c))
def ok45:o_k 45 w45:=a_h (o_z e45 i45 (a_C ok36 (a_C ok72 a_N)))
def w16(c:ae):FB:=f16 (b_T [(10,w10 c),(12,w12 c),(41,w41 c),(42,w42 c),(43,w43 c),(44,w44 c),(45,w45 c)] c)
def ok16:o_k 16 w16:=o_z e16 i16 (a_C ok10 (a_C ok12 (a_C ok41 (a_C ok42 (a_C ok43 (a_C ok44 (a_C ok45 a_N)))))))
def w17(c:ae):FB:=memo (f17 (b_T [] c))
def ok17:o_k 17 w17:=a_h (o_z e17 i17 a_N)
def w18(c:ae):FB:=f18 (b_T [(10,w10 c)] c)
def ok18:o_k 18 w18:=o_z e18 i18 (a_C ok10 a_N)
def w4(c:ae):FB:=f4 (b_T [(16,w16 c),(17,w17 c),(18,w18 c)] c)
def ok4:o_k 4 w4:=o_z e4 i4 (a_C ok16 (a_C ok17 (a_C ok18 a_N)))
def w5(c:ae):FB:=memo (f5 (b_T [] c))
def ok5:o_k 5 w5:=a_h (o_z e5 i5 a_N)
def w46(c:ae):FB:=memo (f46 (b_T [] c))
def ok46:o_k 46 w46:=a_h (o_z e46 i46 a_N)
def w73(c:ae):FB:=f73 (b_T [] c)
def ok73:o_k 73 w73:=o_z e73 i73 a_N
def w47(c:ae):FB:=f47 (b_T [(73,w73 c)] c)
def ok47:o_k 47 w47:=o_z e47 i47 (a_C ok73 a_N)
def w91(c:ae):FB:=memo (f91 (b_T [] c))
def ok91:o_k 91 w91:=a_h (o_z e91 i91 a_N)
def w92(c:ae):FB:=memo (f92 (b_T [] c))
def ok92:o_k 92 w92:=a_h (o_z e92 i92 a_N)
def w59(c:ae):FB:=memo (f59 (b_T [(46,w46 c),(91,w91 c),(92,w92 c)] c))
def ok59:o_k 59 w59:=a_h (o_z e59 i59 (a_C ok46 (a_C ok91 (a_C ok92 a_N))))
def w97(c:ae):FB:=memo (f97 (b_T [] c))
def ok97:o_k 97 w97:=a_h (o_z e97 i97 a_N)
def w114(c:ae):FB:=memo (f114 (b_T [(97,w97 c)] c))
def ok114:o_k 114 w114:=a_h (o_z e114 i114 (a_C ok97 a_N))
def w115(c:ae):FB:=memo (f115 (b_T [(46,w46 c),(97,w97 c)] c))
def ok115:o_k 115 w115:=a_h (o_z e115 i115 (a_C ok46 (a_C ok97 a_N)))
def w74(c:ae):FB:=memo (f74 (b_T [(59,w59 c),(114,w114 c),(115,w115 c)] c))
def ok74:o_k 74 w74:=a_h (o_z e74 i74 (a_C ok59 (a_C ok114 (a_C ok115 a_N))))
def w50(c:ae):FB:=memo (f50 (b_T [(74,w74 c)] c))
def ok50:o_k 50 w50:=a_h (o_z e50 i50 (a_C ok74 a_N))
def w51(c:ae):FB:=memo (f51 (b_T [] c))
def ok51:o_k 51 w51:=a_h (o_z e51 i51 a_N)
def w52(c:ae):FB:=memo (f52 (b_T [] c))
def ok52:o_k 52 w52:=a_h (o_z e52 i52 a_N)
def w19(c:ae):FB:=memoR (f19 (BA ac aa (tblF [(46,w46 c),(47,w47 c),(50,w50 c),(51,w51 c),(52,w52 c)] c)))
def ok19:o_k 19 w19:=λhc=>ent_ro (oz e19 i19 hc (aC (ok46 hc) (aC (ok47 hc) (aC (ok50 hc) (aC (ok51 hc) (aC (ok52 hc) aN)))))) rfl (by kernel_rfl) (by kernel_rfl)
def w75(c:ae):FB:=f75 (b_T [] c)
def ok75:o_k 75 w75:=o_z e75 i75 a_N
def w53(c:ae):FB:=f53 (b_T [(46,w46 c),(75,w75 c)] c)
def ok53:o_k 53 w53:=o_z e53 i53 (a_C ok46 (a_C ok75 a_N))
def w20(c:ae):FB:=f20 (b_T [(53,w53 c)] c)
def ok20:o_k 20 w20:=o_z e20 i20 (a_C ok53 a_N)
def w21(c:ae):FB:=f21 (b_T [] c)
def ok21:o_k 21 w21:=o_z e21 i21 a_N
def w6(c:ae):FB:=f6 (b_T [(19,w19 c),(20,w20 c),(21,w21 c)] c)
def ok6:o_k 6 w6:=o_z e6 i6 (a_C ok19 (a_C ok20 (a_C ok21 a_N)))
def w86(c:ae):FB:=memo (f86 (b_T [] c))
def ok86:o_k 86 w86:=a_h (o_z e86 i86 a_N)
def w57(c:ae):FB:=memo (f57 (b_T [(86,w86 c)] c))
def ok57:o_k 57 w57:=a_h (o_z e57 i57 (a_C ok86 a_N))
def w87(c:ae):FB:=f87 (b_T [] c)
def ok87:o_k 87 w87:=o_z e87 i87 a_N
def w88(c:ae):FB:=memo (f88 (b_T [(46,w46 c)] c))
def ok88:o_k 88 w88:=a_h (o_z e88 i88 (a_C ok46 a_N))
def w58(c:ae):FB:=f58 (b_T [(74,w74 c),(87,w87 c),(88,w88 c)] c)
def ok58:o_k 58 w58:=o_z e58 i58 (a_C ok74 (a_C ok87 (a_C ok88 a_N)))
def w93(c:ae):FB:=memo (f93 (b_T [] c))
def ok93:o_k 93 w93:=a_h (o_z e93 i93 a_N)
def w94(c:ae):FB:=memo (f94 (b_T [(57,w57 c)] c))
def ok94:o_k 94 w94:=a_h (o_z e94 i94 (a_C ok57 a_N))
def w95(c:ae):FB:=memo (f95 (b_T [] c))
def ok95:o_k 95 w95:=a_h (o_z e95 i95 a_N)
def w96(c:ae):FB:=memo (f96 (b_T [(93,w93 c)] c))
def ok96:o_k 96 w96:=a_h (o_z e96 i96 (a_C ok93 a_N))
def w60(c:ae):FB:=memo (f60 (b_T [(57,w57 c),(93,w93 c),(94,w94 c),(95,w95 c),(96,w96 c)] c))
def ok60:o_k 60 w60:=a_h (o_z e60 i60 (a_C ok57 (a_C ok93 (a_C ok94 (a_C ok95 (a_C ok96 a_N))))))
def w125(c:ae):FB:=memo (f125 (b_T [] c))
def ok125:o_k 125 w125:=a_h (o_z e125 i125 a_N)
def w83(c:ae):FB:=memo (f83 (b_T [] c))
def ok83:o_k 83 w83:=a_h (o_z e83 i83 a_N)
def w126(c:ae):FB:=memo (f126 (b_T [(57,w57 c),(83,w83 c),(93,w93 c)] c))
def ok126:o_k 126 w126:=a_h (o_z e126 i126 (a_C ok57 (a_C ok83 (a_C ok93 a_N))))
def w98(c:ae):FB:=memo (f98 (b_T [(125,w125 c),(126,w126 c)] c))
def ok98:o_k 98 w98:=a_h (o_z e98 i98 (a_C ok125 (a_C ok126 a_N)))
def w61(c:ae):FB:=memo (f61 (b_T [(57,w57 c),(97,w97 c),(98,w98 c)] c))
def ok61:o_k 61 w61:=a_h (o_z e61 i61 (a_C ok57 (a_C ok97 (a_C ok98 a_N))))
def w24(c:ae):FB:=f24 (b_T [(19,w19 c),(57,w57 c),(58,w58 c),(59,w59 c),(60,w60 c),(61,w61 c)] c)
def ok24:o_k 24 w24:=o_z e24 i24 (a_C ok19 (a_C ok57 (a_C ok58 (a_C ok59 (a_C ok60 (a_C ok61 a_N))))))
def w7(c:ae):FB:=f7 (b_T [(24,w24 c)] c)
def ok7:o_k 7 w7:=o_z e7 i7 (a_C ok24 a_N)
def w25(c:ae):FB:=memo (f25 (b_T [(57,w57 c)] c))
def ok25:o_k 25 w25:=a_h (o_z e25 i25 (a_C ok57 a_N))
def w8(c:ae):FB:=f8 (b_T [(24,w24 c),(25,w25 c)] c)
def ok8:o_k 8 w8:=o_z e8 i8 (a_C ok24 (a_C ok25 a_N))
def w30(c:ae):FB:=f30 (b_T [(41,w41 c),(43,w43 c)] c)
def ok30:o_k 30 w30:=o_z e30 i30 (a_C ok41 (a_C ok43 a_N))
def w62(c:ae):FB:=memo (f62 (b_T [] c))
def ok62:o_k 62 w62:=a_h (o_z e62 i62 a_N)
def w11(c:ae):FB:=f11 (b_T [(10,w10 c)] c)
def ok11:o_k 11 w11:=o_z e11 i11 (a_C ok10 a_N)
def w99(c:ae):FB:=memo (f99 (b_T [(34,w34 c),(44,w44 c),(45,w45 c)] c))
def ok99:o_k 99 w99:=a_h (o_z e99 i99 (a_C ok34 (a_C ok44 (a_C ok45 a_N))))
def w63(c:ae):FB:=f63 (b_T [(10,w10 c),(11,w11 c),(12,w12 c),(41,w41 c),(99,w99 c)] c)
def ok63:o_k 63 w63:=o_z e63 i63 (a_C ok10 (a_C ok11 (a_C ok12 (a_C ok41 (a_C ok99 a_N)))))
def w64(c:ae):FB:=memo (f64 (b_T [] c))
def ok64:o_k 64 w64:=a_h (o_z e64 i64 a_N)
def w26(c:ae):FB:=f26 (b_T [(30,w30 c),(62,w62 c),(63,w63 c),(64,w64 c)] c)
def ok26:o_k 26 w26:=o_z e26 i26 (a_C ok30 (a_C ok62 (a_C ok63 (a_C ok64 a_N))))
def w27(c:ae):FB:=f27 (b_T [(24,w24 c)] c)
def ok27:o_k 27 w27:=o_z e27 i27 (a_C ok24 a_N)
def w152(c:ae):FB:=f152 (b_T [] c)
def ok152:o_k 152 w152:=o_z e152 i152 a_N
def w127(c:ae):FB:=f127 (b_T [(152,w152 c)] c)
def ok127:o_k 127 w127:=o_z e127 i127 (a_C ok152 a_N)
def w100(c:ae):FB:=f100 (b_T [(127,w127 c)] c)
def ok100:o_k 100 w100:=o_z e100 i100 (a_C ok127 a_N)
def w101(c:ae):FB:=f101 (b_T [] c)
def ok101:o_k 101 w101:=o_z e101 i101 a_N
def w104(c:ae):FB:=f104 (b_T [] c)
def ok104:o_k 104 w104:=o_z e104 i104 a_N
def w105(c:ae):FB:=f105 (b_T [] c)
def ok105:o_k 105 w105:=o_z e105 i105 a_N
def w65(c:ae):FB:=f65 (b_T [(100,w100 c),(101,w101 c),(104,w104 c),(105,w105 c)] c)
def ok65:o_k 65 w65:=o_z e65 i65 (a_C ok100 (a_C ok101 (a_C ok104 (a_C ok105 a_N))))
def w28(c:ae):FB:=f28 (b_T [(7,w7 c),(65,w65 c)] c)
def ok28:o_k 28 w28:=o_z e28 i28 (a_C ok7 (a_C ok65 a_N))
def w29(c:ae):FB:=f29 (b_T [(7,w7 c)] c)
def ok29:o_k 29 w29:=o_z e29 i29 (a_C ok7 a_N)
def w66(c:ae):FB:=f66 (b_T [] c)
def ok66:o_k 66 w66:=o_z e66 i66 a_N
def w31(c:ae):FB:=f31 (b_T [(66,w66 c)] c)
def ok31:o_k 31 w31:=o_z e31 i31 (a_C ok66 a_N)
def w106(c:ae):FB:=f106 (b_T [] c)
def ok106:o_k 106 w106:=o_z e106 i106 a_N
def w107(c:ae):FB:=memo (f107 (b_T [] c))
def ok107:o_k 107 w107:=a_h (o_z e107 i107 a_N)
def w67(c:ae):FB:=f67 (b_T [(106,w106 c),(107,w107 c)] c)
def ok67:o_k 67 w67:=o_z e67 i67 (a_C ok106 (a_C ok107 a_N))
def w32(c:ae):FB:=f32 (b_T [(67,w67 c)] c)
def ok32:o_k 32 w32:=o_z e32 i32 (a_C ok67 a_N)
def w9(c:ae):FB:=f9 (b_T [(7,w7 c),(8,w8 c),(26,w26 c),(27,w27 c),(28,w28 c),(29,w29 c),(30,w30 c),(31,w31 c),(32,w32 c)] c)
def ok9:o_k 9 w9:=o_z e9 i9 (a_C ok7 (a_C ok8 (a_C ok26 (a_C ok27 (a_C ok28 (a_C ok29 (a_C ok30 (a_C ok31 (a_C ok32 a_N)))))))))
def w40(c:ae):FB:=memo (f40 (b_T [] c))
def ok40:o_k 40 w40:=a_h (o_z e40 i40 a_N)
def w76(c:ae):FB:=memo (f76 (b_T [(46,w46 c)] c))
def ok76:o_k 76 w76:=a_h (o_z e76 i76 (a_C ok46 a_N))
def w77(c:ae):FB:=f77 (b_T [] c)
def ok77:o_k 77 w77:=o_z e77 i77 a_N
def w142(c:ae):FB:=f142 (b_T [] c)
def ok142:o_k 142 w142:=o_z e142 i142 a_N
def w121(c:ae):FB:=f121 (b_T [(142,w142 c)] c)
def ok121:o_k 121 w121:=o_z e121 i121 (a_C ok142 a_N)
def w151(c:ae):FB:=memo (f151 (b_T [] c))
def ok151:o_k 151 w151:=a_h (o_z e151 i151 a_N)
def w122(c:ae):FB:=memo (f122 (b_T [(151,w151 c)] c))
def ok122:o_k 122 w122:=a_h (o_z e122 i122 (a_C ok151 a_N))
def w79(c:ae):FB:=f79 (b_T [(121,w121 c),(122,w122 c)] c)
def ok79:o_k 79 w79:=o_z e79 i79 (a_C ok121 (a_C ok122 a_N))
def w81(c:ae):FB:=f81 (b_T [] c)
def ok81:o_k 81 w81:=o_z e81 i81 a_N
def w54(c:ae):FB:=f54 (b_T [(19,w19 c),(76,w76 c),(77,w77 c),(79,w79 c),(81,w81 c)] c)
def ok54:o_k 54 w54:=o_z e54 i54 (a_C ok19 (a_C ok76 (a_C ok77 (a_C ok79 (a_C ok81 a_N)))))
def w84(c:ae):FB:=memo (f84 (b_T [] c))
def ok84:o_k 84 w84:=a_h (o_z e84 i84 a_N)
def w85(c:ae):FB:=memo (f85 (b_T [] c))
def ok85:o_k 85 w85:=a_h (o_z e85 i85 a_N)
def w56(c:ae):FB:=memo (f56 (b_T [(83,w83 c),(84,w84 c),(85,w85 c)] c))
def ok56:o_k 56 w56:=a_h (o_z e56 i56 (a_C ok83 (a_C ok84 (a_C ok85 a_N))))
def w23(c:ae):FB:=f23 (b_T [(40,w40 c),(54,w54 c),(56,w56 c)] c)
def ok23:o_k 23 w23:=o_z e23 i23 (a_C ok40 (a_C ok54 (a_C ok56 a_N)))
def w134(c:ae):FB:=f134 (b_T [] c)
def ok134:o_k 134 w134:=o_z e134 i134 a_N
def w161(c:ae):FB:=f161 (b_T [] c)
def ok161:o_k 161 w161:=o_z e161 i161 a_N
def w131(c:ae):FB:=f131 (b_T [(46,w46 c),(134,w134 c),(161,w161 c)] c)
def ok131:o_k 131 w131:=o_z e131 i131 (a_C ok46 (a_C ok134 (a_C ok161 a_N)))
def w123(c:ae):FB:=memo (f123 (b_T [(46,w46 c),(50,w50 c),(92,w92 c)] c))
def ok123:o_k 123 w123:=a_h (o_z e123 i123 (a_C ok46 (a_C ok50 (a_C ok92 a_N))))
def w124(c:ae):FB:=memo (f124 (b_T [(85,w85 c),(97,w97 c)] c))
def ok124:o_k 124 w124:=a_h (o_z e124 i124 (a_C ok85 (a_C ok97 a_N)))
def w90(c:ae):FB:=memo (f90 (b_T [(123,w123 c),(124,w124 c)] c))
def ok90:o_k 90 w90:=a_h (o_z e90 i90 (a_C ok123 (a_C ok124 a_N)))
def w137(c:ae):FB:=memo (f137 (b_T [(97,w97 c)] c))
def ok137:o_k 137 w137:=a_h (o_z e137 i137 (a_C ok97 a_N))
def w138(c:ae):FB:=memo (f138 (b_T [(123,w123 c),(137,w137 c)] c))
def ok138:o_k 138 w138:=a_h (o_z e138 i138 (a_C ok123 (a_C ok137 a_N)))
def w162(c:ae):FB:=memo (f162 (b_T [] c))
def ok162:o_k 162 w162:=a_h (o_z e162 i162 a_N)
def w132(c:ae):FB:=memo (f132 (b_T [(90,w90 c),(138,w138 c),(162,w162 c)] c))
def ok132:o_k 132 w132:=a_h (o_z e132 i132 (a_C ok90 (a_C ok138 (a_C ok162 a_N))))
def w108(c:ae):FB:=f108 (b_T [(131,w131 c),(132,w132 c)] c)
def ok108:o_k 108 w108:=o_z e108 i108 (a_C ok131 (a_C ok132 a_N))
def w133(c:ae):FB:=memo (f133 (b_T [(85,w85 c)] c))
def ok133:o_k 133 w133:=a_h (o_z e133 i133 (a_C ok85 a_N))
def w109(c:ae):FB:=f109 (b_T [(133,w133 c),(134,w134 c)] c)
def ok109:o_k 109 w109:=o_z e109 i109 (a_C ok133 (a_C ok134 a_N))
def w163(c:ae):FB:=f163 (b_T [] c)
def ok163:o_k 163 w163:=o_z e163 i163 a_N
def w135(c:ae):FB:=f135 (b_T [(163,w163 c)] c)
def ok135:o_k 135 w135:=o_z e135 i135 (a_C ok163 a_N)
def w110(c:ae):FB:=f110 (b_T [(122,w122 c),(135,w135 c)] c)
def ok110:o_k 110 w110:=o_z e110 i110 (a_C ok122 (a_C ok135 a_N))
def w113(c:ae):FB:=f113 (b_T [] c)
def ok113:o_k 113 w113:=o_z e113 i113 a_N
def w70(c:ae):FB:=f70 (b_T [(46,w46 c),(108,w108 c),(109,w109 c),(110,w110 c),(113,w113 c)] c)
def ok70:o_k 70 w70:=o_z e70 i70 (a_C ok46 (a_C ok108 (a_C ok109 (a_C ok110 (a_C ok113 a_N)))))
def w38(c:ae):FB:=f38 (b_T [(70,w70 c)] c)
def ok38:o_k 38 w38:=o_z e38 i38 (a_C ok70 a_N)
def w39(c:ae):FB:=memo (f39 (b_T [] c))
def ok39:o_k 39 w39:=a_h (o_z e39 i39 a_N)
def w14(c:ae):FB:=memo (f14 (b_T [(6,w6 c),(7,w7 c),(23,w23 c),(27,w27 c),(29,w29 c),(38,w38 c),(39,w39 c),(40,w40 c)] c))
def ok14:o_k 14 w14:=a_h (o_z e14 i14 (a_C ok6 (a_C ok7 (a_C ok23 (a_C ok27 (a_C ok29 (a_C ok38 (a_C ok39 (a_C ok40 a_N)))))))))
def w3(c:ae):FB:=f3 (b_T [(4,w4 c),(5,w5 c),(6,w6 c),(7,w7 c),(8,w8 c),(9,w9 c),(10,w10 c),(11,w11 c),(12,w12 c),(13,w13 c),(14,w14 c)] c)
def ok3:o_k 3 w3:=o_z e3 i3 (a_C ok4 (a_C ok5 (a_C ok6 (a_C ok7 (a_C ok8 (a_C ok9 (a_C ok10 (a_C ok11 (a_C ok12 (a_C ok13 (a_C ok14 a_N)))))))))))
def w22(c:ae):FB:=f22 (b_T [(23,w23 c)] c)
def ok22:o_k 22 w22:=o_z e22 i22 (a_C ok23 a_N)
def w49(c:ae):FB:=memo (f49 (b_T [] c))
def ok49:o_k 49 w49:=a_h (o_z e49 i49 a_N)
def w48(c:ae):FB:=memo (f48 (b_T [(49,w49 c)] c))
def ok48:o_k 48 w48:=a_h (o_z e48 i48 (a_C ok49 a_N))
def w82(c:ae):FB:=memo (f82 (b_T [(85,w85 c)] c))
def ok82:o_k 82 w82:=a_h (o_z e82 i82 (a_C ok85 a_N))
def w55(c:ae):FB:=f55 (b_T [(60,w60 c),(82,w82 c)] c)
def ok55:o_k 55 w55:=o_z e55 i55 (a_C ok60 (a_C ok82 a_N))
def w172(c:ae):FB:=f172 (b_T [] c)
def ok172:o_k 172 w172:=o_z e172 i172 a_N
def w141(c:ae):FB:=f141 (b_T [(172,w172 c)] c)
def ok141:o_k 141 w141:=o_z e141 i141 (a_C ok172 a_N)
def w120(c:ae):FB:=f120 (b_T [(19,w19 c),(50,w50 c),(141,w141 c)] c)
def ok120:o_k 120 w120:=o_z e120 i120 (a_C ok19 (a_C ok50 (a_C ok141 a_N)))
def w78(c:ae):FB:=memoR (f78 (BA ac aa (tblF [(120,w120 c)] c)))
def ok78:o_k 78 w78:=λhc=>ent_ro (oz e78 i78 hc (aC (ok120 hc) aN)) rfl (by kernel_rfl) (by kernel_rfl)
def w80(c:ae):FB:=memo (f80 (b_T [] c))
def ok80:o_k 80 w80:=a_h (o_z e80 i80 a_N)
def w89(c:ae):FB:=f89 (b_T [(50,w50 c),(60,w60 c),(82,w82 c),(90,w90 c)] c)
def ok89:o_k 89 w89:=o_z e89 i89 (a_C ok50 (a_C ok60 (a_C ok82 (a_C ok90 a_N))))
def w171(c:ae):FB:=memo (f171 (b_T [] c))
def ok171:o_k 171 w171:=a_h (o_z e171 i171 a_N)
def w136(c:ae):FB:=memo (f136 (b_T [(171,w171 c)] c))
def ok136:o_k 136 w136:=a_h (o_z e136 i136 (a_C ok171 a_N))
def w130(c:ae):FB:=f130 (b_T [(136,w136 c)] c)
def ok130:o_k 130 w130:=o_z e130 i130 (a_C ok136 a_N)
def w103(c:ae):FB:=memo (f103 (b_T [(130,w130 c)] c))
def ok103:o_k 103 w103:=a_h (o_z e103 i103 (a_C ok130 a_N))
def w112(c:ae):FB:=f112 (b_T [(136,w136 c)] c)
def ok112:o_k 112 w112:=o_z e112 i112 (a_C ok136 a_N)
def w111(c:ae):FB:=memo (f111 (b_T [(112,w112 c)] c))
def ok111:o_k 111 w111:=a_h (o_z e111 i111 (a_C ok112 a_N))
def w117(c:ae):FB:=memo (f117 (b_T [(137,w137 c)] c))
def ok117:o_k 117 w117:=a_h (o_z e117 i117 (a_C ok137 a_N))
def w118(c:ae):FB:=memo (f118 (b_T [] c))
def ok118:o_k 118 w118:=a_h (o_z e118 i118 a_N)
def w139(c:ae):FB:=memo (f139 (b_T [] c))
def ok139:o_k 139 w139:=a_h (o_z e139 i139 a_N)
def w140(c:ae):FB:=f140 (b_T [] c)
def ok140:o_k 140 w140:=o_z e140 i140 a_N
def w119(c:ae):FB:=memo (f119 (b_T [(138,w138 c),(139,w139 c),(140,w140 c)] c))
def ok119:o_k 119 w119:=a_h (o_z e119 i119 (a_C ok138 (a_C ok139 (a_C ok140 a_N))))
def w116(c:ae):FB:=f116 (b_T [(50,w50 c),(114,w114 c),(115,w115 c),(117,w117 c),(118,w118 c),(119,w119 c)] c)
def ok116:o_k 116 w116:=o_z e116 i116 (a_C ok50 (a_C ok114 (a_C ok115 (a_C ok117 (a_C ok118 (a_C ok119 a_N))))))
def w128(c:ae):FB:=memo (f128 (b_T [(97,w97 c)] c))
def ok128:o_k 128 w128:=a_h (o_z e128 i128 (a_C ok97 a_N))
def w173(c:ae):FB:=memo (f173 (b_T [(51,w51 c),(52,w52 c)] c))
def ok173:o_k 173 w173:=a_h (o_z e173 i173 (a_C ok51 (a_C ok52 a_N)))
def w182(c:ae):FB:=f182 (b_T [(74,w74 c),(88,w88 c)] c)
def ok182:o_k 182 w182:=o_z e182 i182 (a_C ok74 (a_C ok88 a_N))
def y_of{κ:Nat}{g:ae->Tl->Nat->FB}{ct:ae->ae}{c:ae}(h0:∀vs l ls h K,rJ (BA ac aa (ct c)) (xc 0) ac drN (aa κ) vs l ls h K=g c vs l ls h K)(hc:Cok (ct c)):YOk cc ac aa κ (g c):=by
 intro vs l ls h K w st pd xs e hy hk
 rw[←h0]at hk
 obtain⟨b,h',a1,a3⟩:=wX (X:=xc 0) (BA_ok (w:=w) hc) tI (jZ e) rfl rfl rfl rfl hy hk
 exact⟨b,h',a1,a3⟩
def ctY864(c:ae):ae:=tblF [(78,w78 c)] c
def bY864(c:ae)(vs:Tl)(lp:Nat):FB:=λls h K=>ucVB vs (λx8 b0=>chkB x8 ( ucVB b0 (λa3 b1=>chkB a3 ( uc0B b1 ( unIB ls (λn12 b2=>unIB b2 (λn14 b3=>unIB b3 (λn16 b4=>unIB b4 (λn18 b5=>un0B b5 (newB (.cells [(.int .i64 (.ofNat (nat_lit 0))),(.int .i64 (.ofNat (nat_lit 0))),(.int .u8 (.ofNat (nat_lit 0)))] 3 true) h (λa0 b6=>stB (.pointer (some ⟨a0,0,none⟩)) [(.int .i64 n14),(.int .i64 n16),(.int .u8 n18)] b6 (λg5 b7=>lp1B lp b7 (λa1=>lgB cc 3 x8 a1 (λb8=>ucIB .i64 b8 (λn26 b9=>ucIB .i64 b9 (λn28 c1=>ucVB c1 (λx30 d0=>chkB x30 ( uc0B d0 ( optB (fdP 1 (.pointer (some ⟨a0,0,none⟩))) (λx32=>chkB x32 ( optB (fdP 0 x32) (λa4=>chkB a4 ( lgB cc 1 a4 a1 (λd1=>ucIB .i64 d1 (λn35 d2=>uc0B d2 ( optB (fdP 1 (.pointer (some ⟨a0,0,none⟩))) (λa5=>chkB a5 ( optB (fdP 1 a5) (λa6=>chkB a6 ( lgB cc 1 a6 a1 (λd3=>ucIB .u8 d3 (λn40 d4=>uc0B d4 ( yC (ctY864 c) 78 [.i n26,.i n28,.v x30,.i n35,.i n40] a1 (λd5 a2=>unIB d5 (λn44 d6=>unIB d6 (λn46 d7=>un0B d7 (joinB (λd8 d9=>un0B d8 (lp2B lp none d9 (λe0=>K [.b true] e0))) (λa7=>cB ( a7 [] a2) ( lgB cc 1 a3 a2 (λe1=>ucVB e1 (λx54 e2=>chkB x54 ( uc0B e2 ( optB (fdP 0 (.pointer (some ⟨a0,0,none⟩))) (λa8=>chkB a8 ( lgB cc 1 a8 a2 (λf0=>ucIB .i64 f0 (λn58 f1=>uc0B f1 ( newB (.cells [(.int .i64 n58),(.int .u8 n44)] 2 true) a2 (λf2 g0=>apB aa cc 2 16 x54 (.slice (some ⟨f2,0,(some 12)⟩) 1 2) g0 (λg1 g2=>ucVB g1 (λa9 g3=>chkB a9 ( uc0B g3 ( stB a3 [a9] g2 (λg6 g4=>a7 [] g4)))))))))))))))) (notK (eqZK n44 (.ofNat (nat_lit 0))))))))))))))))))))))))))))))))))))))))))
def pfY864(c:ae)(vs:Tl)(lp:Nat)(ls:TE)(h:HTr)(K:TE->HTr->RT):y864 (BA ac aa (ctY864 c)) vs lp ls h K=bY864 c vs lp ls h K:=uL (λx8 l9=>lM (uL (λx10 l11=>lM (oW (uM (λn12 l13=>uM (λn14 l15=>uM (λn16 l17=>uM (λn18 l19=>q_un0 (q_new (λm20 h21=>q_st (λl22 h23=>q_lp1 (λh24=>q_lg (λl25=>wc (λn26 l27=>wc (λn28 l29=>uL (λx30 l31=>lM (oW (q_opt (λx32=>lM (q_opt (λx33=>lM (q_lg (λl34=>wc (λn35 l36=>oW (q_opt (λx37=>lM (q_opt (λx38=>lM (q_lg (λl39=>wc (λn40 l41=>oW (q_callD (λl42 h43=>uM (λn44 l45=>uM (λn46 l47=>q_un0 (q_neq (q_join (λl49 h50=>q_un0 (q_lp2 (λh51=>rfl))) (λj52=>q_cond (q_lg (λl53=>uL (λx54 l55=>lM (oW (q_opt (λx56=>lM (q_lg (λl57=>wc (λn58 l59=>oW (q_new (λm60 h61=>q_ap (λl62 h63=>uL (λx64 l65=>lM (oW (q_st (λl66 h67=>rfl)))))))))))))))) (rfl))))))))))))))))))))))))))))))))))))))))
def okY864{c:ae}(hc:Cok c):YOk cc ac aa 864 (bY864 c):=y_of (g:=bY864) (ct:=ctY864) (λvs l ls h K=>(congrFun (congrFun (congrFun (congrFun (congrFun (congrFun (congrFun (congrFun ey864 RT) HTr) _) vs) l) ls) h) K).symm.trans (pfY864 c vs l ls h K)) (wy hc (by
  intro p hp
  simp only[qak,qbf,or_false]at hp
  subst hp
  exact ok78 hc))
def ctY2096(c:ae):ae:=tblF [] c
def tu(c:ae)(vs:Tl)(lp:Nat):FB:=λls h K=>ucVB vs (λx8 a3=>chkB x8 ( uc0B a3 ( unIB ls (λn10 a4=>unIB a4 (λn12 a5=>un0B a5 (newB (.cells [(.int .i64 (.ofNat (nat_lit 0))),(.int .u8 (.ofNat (nat_lit 0)))] 2 true) h (λa1 a6=>stB (.pointer (some ⟨a1,0,none⟩)) [(.int .i64 n10),(.int .u8 n12)] a6 (λc1 a7=>lp1B lp a7 (λa0=>lgB cc 1 x8 a0 (λa8=>ucVB a8 (λa2 a9=>chkB a2 ( uc0B a9 ( lgB cc 2 (.pointer (some ⟨a1,0,none⟩)) a0 (λb0=>ucIB .i64 b0 (λn23 b1=>ucIB .u8 b1 (λn25 b2=>uc0B b2 ( newB (.cells [(.int .i64 n23),(.int .u8 n25)] 2 true) a0 (λb3 b4=>apB aa cc 2 16 a2 (.slice (some ⟨b3,0,(some 12)⟩) 1 2) b4 (λb5 b6=>ucVB b5 (λx31 b7=>chkB x31 ( uc0B b7 ( stB x8 [x31] b6 (λd0 b8=>lp2B lp none b8 (λb9=>K [.b true] b9))))))))))))))))))))))))
def pfY2096(c:ae)(vs:Tl)(lp:Nat)(ls:TE)(h:HTr)(K:TE->HTr->RT):y2096 (BA ac aa (ctY2096 c)) vs lp ls h K=tu c vs lp ls h K:=uL (λx8 l9=>lM (oW (uM (λn10 l11=>uM (λn12 l13=>q_un0 (q_new (λm14 h15=>q_st (λl16 h17=>q_lp1 (λh18=>q_lg (λl19=>uL (λx20 l21=>lM (oW (q_lg (λl22=>wc (λn23 l24=>wc (λn25 l26=>oW (q_new (λm27 h28=>q_ap (λl29 h30=>uL (λx31 l32=>lM (oW (q_st (λl33 h34=>q_lp2 (λh35=>rfl))))))))))))))))))))))))
def okY2096{c:ae}(hc:Cok c):YOk cc ac aa 2096 (tu c):=y_of (g:=tu) (ct:=ctY2096) (λvs l ls h K=>(congrFun (congrFun (congrFun (congrFun (congrFun (congrFun (congrFun (congrFun ey2096 RT) HTr) _) vs) l) ls) h) K).symm.trans (pfY2096 c vs l ls h K)) (wy hc (by
  intro p hp
  cases hp))
def tabW(c:ae):Tr FB:=(.node nf (.node nf (.node (w3 c) (.node (w7 c) (.node nf (.node (w31 c) (.node (w63 c) (.node (w127 c) .leaf .leaf) .leaf) (.node (w95 c) .leaf .leaf)) (.node (w47 c) (.node (w79 c) .leaf .leaf) (.node (w111 c) .leaf .leaf))) (.node (w23 c) (.node (w39 c) (.node (w71 c) (.node (w135 c) .leaf .leaf) .leaf) (.node (w103 c) .leaf .leaf)) (.node (w55 c) (.node (w87 c) (.node (w151 c) .leaf .leaf) .leaf) (.node (w119 c) .leaf .leaf)))) (.node (w11 c) (.node (w19 c) (.node (w35 c) (.node (w67 c) (.node (w131 c) .leaf .leaf) .leaf) (.node (w99 c) (.node (w163 c) .leaf .leaf) .leaf)) (.node (w51 c) (.node (w83 c) .leaf .leaf) (.node (w115 c) .leaf .leaf))) (.node (w27 c) (.node (w43 c) (.node (w75 c) (.node (w139 c) .leaf .leaf) .leaf) (.node (w107 c) (.node (w171 c) .leaf .leaf) .leaf)) (.node (w59 c) (.node (w91 c) .leaf .leaf) (.node (w123 c) .leaf .leaf))))) (.node (w5 c) (.node (w9 c) (.node (w17 c) (.node (w33 c) (.node (w65 c) .leaf .leaf) (.node (w97 c) (.node (w161 c) .leaf .leaf) .leaf)) (.node (w49 c) (.node (w81 c) .leaf .leaf) (.node (w113 c) .leaf .leaf))) (.node (w25 c) (.node (w41 c) (.node (w73 c) (.node (w137 c) .leaf .leaf) .leaf) (.node (w105 c) .leaf .leaf)) (.node (w57 c) (.node (w89 c) .leaf .leaf) (.node (w121 c) .leaf .leaf)))) (.node (w13 c) (.node (w21 c) (.node (w37 c) (.node (w69 c) (.node (w133 c) .leaf .leaf) .leaf) (.node (w101 c) .leaf .leaf)) (.node (w53 c) (.node (w85 c) .leaf .leaf) (.node (w117 c) .leaf .leaf))) (.node (w29 c) (.node (w45 c) (.node (w77 c) (.node (w141 c) .leaf .leaf) .leaf) (.node (w109 c) (.node (w173 c) .leaf .leaf) .leaf)) (.node (w61 c) (.node (w93 c) .leaf .leaf) (.node (w125 c) .leaf .leaf)))))) (.node nf (.node (w4 c) (.node (w8 c) (.node (w16 c) (.node (w32 c) (.node (w64 c) (.node (w128 c) .leaf .leaf) .leaf) (.node (w96 c) .leaf .leaf)) (.node (w48 c) (.node (w80 c) .leaf .leaf) (.node (w112 c) .leaf .leaf))) (.node (w24 c) (.node (w40 c) (.node (w72 c) (.node (w136 c) .leaf .leaf) .leaf) (.node (w104 c) .leaf .leaf)) (.node (w56 c) (.node (w88 c) (.node (w152 c) .leaf .leaf) .leaf) (.node (w120 c) .leaf .leaf)))) (.node (w12 c) (.node (w20 c) (.node (w36 c) (.node (w68 c) (.node (w132 c) .leaf .leaf) .leaf) (.node (w100 c) .leaf .leaf)) (.node (w52 c) (.node (w84 c) .leaf .leaf) (.node (w116 c) .leaf .leaf))) (.node (w28 c) (.node (w44 c) (.node (w76 c) (.node (w140 c) .leaf .leaf) .leaf) (.node (w108 c) (.node (w172 c) .leaf .leaf) .leaf)) (.node (w60 c) (.node (w92 c) .leaf .leaf) (.node (w124 c) .leaf .leaf))))) (.node (w6 c) (.node (w10 c) (.node (w18 c) (.node (w34 c) (.node (w66 c) (.node (w130 c) .leaf .leaf) .leaf) (.node (w98 c) (.node (w162 c) .leaf .leaf) .leaf)) (.node (w50 c) (.node (w82 c) .leaf .leaf) (.node (w114 c) .leaf .leaf))) (.node (w26 c) (.node (w42 c) (.node (w74 c) (.node (w138 c) .leaf .leaf) .leaf) (.node (w106 c) .leaf .leaf)) (.node (w58 c) (.node (w90 c) .leaf .leaf) (.node (w122 c) .leaf .leaf)))) (.node (w14 c) (.node (w22 c) (.node (w38 c) (.node (w70 c) (.node (w134 c) .leaf .leaf) .leaf) .leaf) (.node (w54 c) (.node (w86 c) .leaf .leaf) (.node (w118 c) (.node (w182 c) .leaf .leaf) .leaf))) (.node (w30 c) (.node (w46 c) (.node (w78 c) (.node (w142 c) .leaf .leaf) .leaf) (.node (w110 c) .leaf .leaf)) (.node (w62 c) (.node (w94 c) .leaf .leaf) (.node (w126 c) .leaf .leaf)))))))
def stepF(c:ae):ae:=λck=>match ck with
 | .f f=>match Nat.blt f 183 with
  |true=>(bE f).get nf (tabW c)
  |false=>nf
 | .y κ vs l=>lookY [(864,bY864 c),(2096,tu c)] κ (λvs l ls h K=>rJ (BA ac aa c) (xc 0) ac drN (aa κ) vs l ls h K) vs l
def runF(n:Nat):ae:=Nat.rec (motive:=λ_=>ae) (λ_ _ _ _=>none) (λ_ c=>stepF c) n
def cS{k:Nat}(h1:(λc=>(bE k).get nf (tabW c))=λ_=>nf)(c:ae):Ent k ((bE k).get nf (tabW c)):=by
 intro ls h K w hls hk
 rw[congrFun h1 c]at hk
 cases hk
def aq{k:Nat}{g:ae->FB}(h1:(λc=>(bE k).get nf (tabW c))=g){c:ae}(h:Ent k (g c)):Ent k ((bE k).get nf (tabW c)):=by
 rw[congrFun h1 c];exact h
def a_u{k:Nat}{g:ae->FB}{c:ae}(h:Ent k (g c))(h1:(λc=>(bE k).get nf (tabW c))=g:=by kernel_rfl):Ent k ((bE k).get nf (tabW c)):=aq h1 h
def tabW_ok{c:ae}(hc:Cok c):∀f,Nat.blt f 183=true->Ent f ((bE f).get nf (tabW c))
 |0,_=>cS (by kernel_rfl) c
 |1,_=>cS (by kernel_rfl) c
 |2,_=>cS (by kernel_rfl) c
 |3,_=>a_u (g:=w3) (ok3 hc)
 |4,_=>a_u (g:=w4) (ok4 hc)
 |5,_=>a_u (g:=w5) (ok5 hc)
 |6,_=>a_u (g:=w6) (ok6 hc)
 |7,_=>a_u (g:=w7) (ok7 hc)
 |8,_=>a_u (g:=w8) (ok8 hc)
 |9,_=>a_u (g:=w9) (ok9 hc)
 |10,_=>a_u (g:=w10) (ok10 hc)
 |11,_=>a_u (g:=w11) (ok11 hc)
 |12,_=>a_u (g:=w12) (ok12 hc)
 |13,_=>a_u (g:=w13) (ok13 hc)
 |14,_=>a_u (g:=w14) (ok14 hc)
 |15,_=>cS (by kernel_rfl) c
 |16,_=>a_u (g:=w16) (ok16 hc)
 |17,_=>a_u (g:=w17) (ok17 hc)
 |18,_=>a_u (g:=w18) (ok18 hc)
 |19,_=>a_u (g:=w19) (ok19 hc)
 |20,_=>a_u (g:=w20) (ok20 hc)
 |21,_=>a_u (g:=w21) (ok21 hc)
 |22,_=>a_u (g:=w22) (ok22 hc)
 |23,_=>a_u (g:=w23) (ok23 hc)
 |24,_=>a_u (g:=w24) (ok24 hc)
 |25,_=>a_u (g:=w25) (ok25 hc)
 |26,_=>a_u (g:=w26) (ok26 hc)
 |27,_=>a_u (g:=w27) (ok27 hc)
 |28,_=>a_u (g:=w28) (ok28 hc)
 |29,_=>a_u (g:=w29) (ok29 hc)
 |30,_=>a_u (g:=w30) (ok30 hc)
 |31,_=>a_u (g:=w31) (ok31 hc)
 |32,_=>a_u (g:=w32) (ok32 hc)
 |33,_=>a_u (g:=w33) (ok33 hc)
 |34,_=>a_u (g:=w34) (ok34 hc)
 |35,_=>a_u (g:=w35) (ok35 hc)
 |36,_=>a_u (g:=w36) (ok36 hc)
 |37,_=>a_u (g:=w37) (ok37 hc)
 |38,_=>a_u (g:=w38) (ok38 hc)
 |39,_=>a_u (g:=w39) (ok39 hc)
 |40,_=>a_u (g:=w40) (ok40 hc)
 |41,_=>a_u (g:=w41) (ok41 hc)
 |42,_=>a_u (g:=w42) (ok42 hc)
 |43,_=>a_u (g:=w43) (ok43 hc)
 |44,_=>a_u (g:=w44) (ok44 hc)
 |45,_=>a_u (g:=w45) (ok45 hc)
 |46,_=>a_u (g:=w46) (ok46 hc)
 |47,_=>a_u (g:=w47) (ok47 hc)
 |48,_=>a_u (g:=w48) (ok48 hc)
 |49,_=>a_u (g:=w49) (ok49 hc)
 |50,_=>a_u (g:=w50) (ok50 hc)
 |51,_=>a_u (g:=w51) (ok51 hc)
 |52,_=>a_u (g:=w52) (ok52 hc)
 |53,_=>a_u (g:=w53) (ok53 hc)
 |54,_=>a_u (g:=w54) (ok54 hc)
 |55,_=>a_u (g:=w55) (ok55 hc)
 |56,_=>a_u (g:=w56) (ok56 hc)
 |57,_=>a_u (g:=w57) (ok57 hc)
 |58,_=>a_u (g:=w58) (ok58 hc)
 |59,_=>a_u (g:=w59) (ok59 hc)
 |60,_=>a_u (g:=w60) (ok60 hc)
 |61,_=>a_u (g:=w61) (ok61 hc)
 |62,_=>a_u (g:=w62) (ok62 hc)
 |63,_=>a_u (g:=w63) (ok63 hc)
 |64,_=>a_u (g:=w64) (ok64 hc)
 |65,_=>a_u (g:=w65) (ok65 hc)
 |66,_=>a_u (g:=w66) (ok66 hc)
 |67,_=>a_u (g:=w67) (ok67 hc)
 |68,_=>a_u (g:=w68) (ok68 hc)
 |69,_=>a_u (g:=w69) (ok69 hc)
 |70,_=>a_u (g:=w70) (ok70 hc)
 |71,_=>a_u (g:=w71) (ok71 hc)
 |72,_=>a_u (g:=w72) (ok72 hc)
 |73,_=>a_u (g:=w73) (ok73 hc)
 |74,_=>a_u (g:=w74) (ok74 hc)
 |75,_=>a_u (g:=w75) (ok75 hc)
 |76,_=>a_u (g:=w76) (ok76 hc)
 |77,_=>a_u (g:=w77) (ok77 hc)
 |78,_=>a_u (g:=w78) (ok78 hc)
 |79,_=>a_u (g:=w79) (ok79 hc)
 |80,_=>a_u (g:=w80) (ok80 hc)
 |81,_=>a_u (g:=w81) (ok81 hc)
 |82,_=>a_u (g:=w82) (ok82 hc)
 |83,_=>a_u (g:=w83) (ok83 hc)
 |84,_=>a_u (g:=w84) (ok84 hc)
 |85,_=>a_u (g:=w85) (ok85 hc)
 |86,_=>a_u (g:=w86) (ok86 hc)
 |87,_=>a_u (g:=w87) (ok87 hc)
 |88,_=>a_u (g:=w88) (ok88 hc)
 |89,_=>a_u (g:=w89) (ok89 hc)
 |90,_=>a_u (g:=w90) (ok90 hc)
 |91,_=>a_u (g:=w91) (ok91 hc)
 |92,_=>a_u (g:=w92) (ok92 hc)
 |93,_=>a_u (g:=w93) (ok93 hc)
 |94,_=>a_u (g:=w94) (ok94 hc)
 |95,_=>a_u (g:=w95) (ok95 hc)
 |96,_=>a_u (g:=w96) (ok96 hc)
 |97,_=>a_u (g:=w97) (ok97 hc)
 |98,_=>a_u (g:=w98) (ok98 hc)
 |99,_=>a_u (g:=w99) (ok99 hc)
 |100,_=>a_u (g:=w100) (ok100 hc)
 |101,_=>a_u (g:=w101) (ok101 hc)
 |102,_=>cS (by kernel_rfl) c
 |103,_=>a_u (g:=w103) (ok103 hc)
 |104,_=>a_u (g:=w104) (ok104 hc)
 |105,_=>a_u (g:=w105) (ok105 hc)
 |106,_=>a_u (g:=w106) (ok106 hc)
 |107,_=>a_u (g:=w107) (ok107 hc)
 |108,_=>a_u (g:=w108) (ok108 hc)
 |109,_=>a_u (g:=w109) (ok109 hc)
 |110,_=>a_u (g:=w110) (ok110 hc)
 |111,_=>a_u (g:=w111) (ok111 hc)
 |112,_=>a_u (g:=w112) (ok112 hc)
 |113,_=>a_u (g:=w113) (ok113 hc)
 |114,_=>a_u (g:=w114) (ok114 hc)
 |115,_=>a_u (g:=w115) (ok115 hc)
 |116,_=>a_u (g:=w116) (ok116 hc)
 |117,_=>a_u (g:=w117) (ok117 hc)
 |118,_=>a_u (g:=w118) (ok118 hc)
 |119,_=>a_u (g:=w119) (ok119 hc)
 |120,_=>a_u (g:=w120) (ok120 hc)
 |121,_=>a_u (g:=w121) (ok121 hc)
 |122,_=>a_u (g:=w122) (ok122 hc)
 |123,_=>a_u (g:=w123) (ok123 hc)
 |124,_=>a_u (g:=w124) (ok124 hc)
 |125,_=>a_u (g:=w125) (ok125 hc)
 |126,_=>a_u (g:=w126) (ok126 hc)
 |127,_=>a_u (g:=w127) (ok127 hc)
 |128,_=>a_u (g:=w128) (ok128 hc)
 |129,_=>cS (by kernel_rfl) c
 |130,_=>a_u (g:=w130) (ok130 hc)
 |131,_=>a_u (g:=w131) (ok131 hc)
 |132,_=>a_u (g:=w132) (ok132 hc)
 |133,_=>a_u (g:=w133) (ok133 hc)
 |134,_=>a_u (g:=w134) (ok134 hc)
 |135,_=>a_u (g:=w135) (ok135 hc)
 |136,_=>a_u (g:=w136) (ok136 hc)
 |137,_=>a_u (g:=w137) (ok137 hc)
 |138,_=>a_u (g:=w138) (ok138 hc)
 |139,_=>a_u (g:=w139) (ok139 hc)
 |140,_=>a_u (g:=w140) (ok140 hc)
 |141,_=>a_u (g:=w141) (ok141 hc)
 |142,_=>a_u (g:=w142) (ok142 hc)
 |143,_=>cS (by kernel_rfl) c
 |144,_=>cS (by kernel_rfl) c
 |145,_=>cS (by kernel_rfl) c
 |146,_=>cS (by kernel_rfl) c
 |147,_=>cS (by kernel_rfl) c
 |148,_=>cS (by kernel_rfl) c
 |149,_=>cS (by kernel_rfl) c
 |150,_=>cS (by kernel_rfl) c
 |151,_=>a_u (g:=w151) (ok151 hc)
 |152,_=>a_u (g:=w152) (ok152 hc)
 |153,_=>cS (by kernel_rfl) c
 |154,_=>cS (by kernel_rfl) c
 |155,_=>cS (by kernel_rfl) c
 |156,_=>cS (by kernel_rfl) c
 |157,_=>cS (by kernel_rfl) c
 |158,_=>cS (by kernel_rfl) c
 |159,_=>cS (by kernel_rfl) c
 |160,_=>cS (by kernel_rfl) c
 |161,_=>a_u (g:=w161) (ok161 hc)
 |162,_=>a_u (g:=w162) (ok162 hc)
 |163,_=>a_u (g:=w163) (ok163 hc)
 |164,_=>cS (by kernel_rfl) c
 |165,_=>cS (by kernel_rfl) c
 |166,_=>cS (by kernel_rfl) c
 |167,_=>cS (by kernel_rfl) c
 |168,_=>cS (by kernel_rfl) c
 |169,_=>cS (by kernel_rfl) c
 |170,_=>cS (by kernel_rfl) c
 |171,_=>a_u (g:=w171) (ok171 hc)
 |172,_=>a_u (g:=w172) (ok172 hc)
 |173,_=>a_u (g:=w173) (ok173 hc)
 |174,_=>cS (by kernel_rfl) c
 |175,_=>cS (by kernel_rfl) c
 |176,_=>cS (by kernel_rfl) c
 |177,_=>cS (by kernel_rfl) c
 |178,_=>cS (by kernel_rfl) c
 |179,_=>cS (by kernel_rfl) c
 |180,_=>cS (by kernel_rfl) c
 |181,_=>cS (by kernel_rfl) c
 |182,_=>a_u (g:=w182) (ok182 hc)
 |n+183,h=>by rw[qaO]at h;omega
def stepF_ok{c:ae}(hc:Cok c):Cok (stepF c):=by
 refine⟨λf ls h K w hls hk=>?_,λκ vs l ls h K w st pd xs e hy hk=>?_⟩
 ·have hk:(match Nat.blt f 183 with|true=>(bE f).get nf (tabW c)|false=>nf) ls h K=some w:=hk
  cases e:Nat.blt f 183 with
  |true=>rw[e]at hk;exact tabW_ok hc f e ls h K w hls hk
  |false=>rw[e]at hk;cases hk
 ·have hd:YOk cc ac aa κ (λvs l ls h K=>rJ (BA ac aa c) (xc 0) ac drN (aa κ) vs l ls h K):=y_of (g:=λc vs l ls h K=>rJ (BA ac aa c) (xc 0) ac drN (aa κ) vs l ls h K) (ct:=λc=>c) (λ_ _ _ _ _=>rfl) hc
  refine xw hd (l:=[(864,bY864 c),(2096,tu c)]) (λp hp=>?_) vs l ls h K w st pd xs e hy hk
  simp only[qak,qbf,or_false]at hp
  rcases hp with rfl|rfl
  ·exact okY864 hc
  ·exact okY2096 hc
def oZ:∀n,Cok (runF n)
 |0=>⟨λ_ _ _ _ _ _ h=>by(cases h),λ_ _ _ _ _ _ _ _ _ _ _ _ h=>by(cases h)⟩
 |n+1=>stepF_ok (oZ n)
end Go.Am
namespace Go.Am
namespace Sx
section
variable [Val] [Kno]
def peekH(T:Tt)(f:Pk)(h:HL)(K:Te):Prop:=∃cs,f.run (getH T h)=some cs/\K cs
abbrev _root_.Ta:=List Value->HL->Prop
def heapH(T:Tt)(f:Hp)(h:HL)(K:Ta):Prop:=∃acts cs,f.run (getH T h) h.length=some (acts,cs)/\K cs (bS h acts)
abbrev _root_.Td:=List Lf->HL->Prop
def callH(C:Cfg)(Sg:Tc)(T:Tt)(g:TQ)(ls:TE)(h:HL)(K:Td):Prop:=∃rs h',aw C Sg g ls (absH T h) rs (absH T h')/\K rs h'
def callvH(C:Cfg)(T:Tt)(v:Value)(args:Tl)(hs:TK)(h:HL)(K:Td):Prop:=∃rs h',th C v args hs (absH T h) rs (absH T h')/\K rs h'
def itH(F:(TE->HL->Prop)->TE->HL->Prop)(n:Nat):TE->HL->Prop:=
 match n with
 |0=>λ_ _=>False
 |n+1=>F (itH F n)
def loopH(F:(TE->HL->Prop)->TE->HL->Prop)(ls:TE)(h:HL):Prop:=∃n,itH F n ls h
def rfunH(C:Cfg)(T:Tt)(κ:Nat)(v:Value)(vals:Tl)(h:HL)(K:Tk->HL->Prop):Prop:=
 ∃g first cap r H1 lp h2,v = .func (.func g) first cap/\
  iO C g (first.toList++[.func (.yield (absH T h).length) #[] #[]]++cap.toList) (absH T h++[.loop (lpOf (T κ) κ vals)]) r H1/\
  ea H1 (absH T h).length=some lp/\lp.state≠.busy/\absH T h2=H1.set (absH T h).length (.loop { lp with state:=.exhausted })/\K lp.pending h2
def lp1H(T:Tt)(l:Nat)(h:HL)(K:HL->Prop):Prop:=∃lp h',ea (absH T h) l=some lp/\lp.state = .ready/\absH T h'=(absH T h).set l (.loop { lp with state:=.busy })/\K h'
def lp2H(T:Tt)(l:Nat)(j:Tk)(h:HL)(K:HL->Prop):Prop:=∃lp h',ea (absH T h) l=some lp/\absH T h'=(absH T h).set l (.loop { lp with state:=if j.isNone then .ready else .done,pending:=j })/\K h'
def PH(C:Cfg)(Sg:Tc)(T:Tt):Alg Prop HL where
 fail:=False
 cond:=condP
 ari:=ariP
 shf:=λop k a k' b K=>∃n,ShRun op k a k' b n/\K n
 cmp:=cmpP
 eqs:=λl K=>K (ch l)
 conv:=λk a K=>K (k.wrap a)
 sel:=λt a b K=>K (if t then a else b)
 opt:=optP
 chk:=λv K=>aT v=true/\K
 unI:=unIP
 unB:=unBP
 unV:=unVP
 un0:=un0P
 ucI:=ucIP
 ucB:=ucBP
 ucV:=ucVP
 uc0:=uc0P
 peek:=peekH T
 heap:=heapH T
 new:=λo h K=>K h.length (h++[.o o])
 call:=callH C Sg T
 callv:=callvH C T
 join:=λb m=>m b
 loop:=loopH
 rfun:=rfunH C T
 pend:=pendP
 lp1:=lp1H T
 lp2:=lp2H T
def PH_ok(C:Cfg)(Sg:Tc)(T:Tt):AlgOk (PH C Sg T) C Sg T id (absH T) where
 fail:=(ge C Sg T).fail
 cond:=(ge C Sg T).cond
 ari:=(ge C Sg T).ari
 shf:=(ge C Sg T).shf
 cmp:=(ge C Sg T).cmp
 eqs:=(ge C Sg T).eqs
 conv:=(ge C Sg T).conv
 sel:=(ge C Sg T).sel
 opt:=(ge C Sg T).opt
 chk:=(ge C Sg T).chk
 unI:=(ge C Sg T).unI
 unB:=(ge C Sg T).unB
 unV:=(ge C Sg T).unV
 un0:=(ge C Sg T).un0
 ucI:=(ge C Sg T).ucI
 ucB:=(ge C Sg T).ucB
 ucV:=(ge C Sg T).ucV
 uc0:=(ge C Sg T).uc0
 peek:=by
  intro f h K hk
  obtain⟨cs,h1,h2⟩:=hk
  exact⟨cs,by rw[←ll];exact h1,h2⟩
 heap:=by
  intro f h K hk
  obtain⟨acts,cs,h1,h2⟩:=hk
  exact⟨acts,cs,_,by rw[←ll,cT];exact h1,kO T acts h,h2⟩
 new:=λo h K hk=>⟨_,hQ T h _,by rw[cT];exact hk⟩
 call:=λg ls h K hk=>hk
 callv:=λv args hs h K hk=>hk
 join:=λb m h=>h
 loop:=by
  intro F ls h hk
  obtain⟨n,hk⟩:=hk
  exact⟨itH F,λls h=>(id:False->False),λn ls h=>rfl,n,hk⟩
 rfun:=λκ v vals h K hk=>hk
 pend:=(ge C Sg T).pend
 lp1:=λl h K hk=>hk
 lp2:=λl j h K hk=>hk
section
variable {C:Cfg} {Sg:Tc} {T:Tt} {call:ae} (hc:CallBOk C Sg T call)
include hc
theorem s_shf{op:BinOp}{k k':TH}{a b:Int}{K:Int->RT}{K':Tu}(hk:∀n,K n=yes->K' n)(h:(BA Sg T call).shf op k a k' b K=yes):(PH C Sg T).shf op k a k' b K':=by
 obtain⟨n,h1,h2⟩:=shfB_ok (w:=[]) h
 exact⟨n,h1,hk _ h2⟩
inductive SL2:List (Nat×RT)->List (Nat×Prop)->Prop
 |nil:SL2 [] []
 |cons {id:Nat} {x:RT} {x':Prop} {l:List (Nat×RT)} {l':List (Nat×Prop)} (hx:x=yes->x') (hl:SL2 l l'):SL2 ((id,x) :: l) ((id,x') :: l')
omit hc in
end
def xr{F:(TE->HL->Prop)->TE->HL->Prop}(Inv:Nat->TE->HL->Prop)
  (step:∀m ls h,Inv m ls h->∀self:TE->HL->Prop,(∀m' ls h,m'<m->Inv m' ls h->self ls h)->F self ls h):∀n m ls h,m<n->Inv m ls h->itH F n ls h
 |0,_,_,_,hm,_=>absurd hm (qbX _)
 |n+1,m,ls,h,hm,hi=>step m ls h hi (itH F n) λm' ls h h' hi'=>xr Inv step n m' ls h (by omega) hi'
def cY{F:(TE->HL->Prop)->TE->HL->Prop}(Inv:Nat->TE->HL->Prop){m:Nat}{ls:TE}{h:HL}(hi:Inv m ls h)
  (step:∀m ls h,Inv m ls h->∀self:TE->HL->Prop,(∀m' ls h,m'<m->Inv m' ls h->self ls h)->F self ls h):loopH F ls h:=
 ⟨m+1,xr Inv step (m+1) m ls h (Nat.lt_succ_self m) hi⟩
end
end Sx
namespace Sx
class Bx (α:Sort _) where
 v:α
def hid{α:Sort _} [b:Bx α]:α:=b.v
section
variable [Val] [Kno] {C:Cfg} {Sg:Tc} {T:Tt}
def b_unI{n:Int}{r:TE}{K:Int->TE->Prop}:(PH C Sg T).unI (.i n :: r) K=K n r:=rfl
def b_unB{n:Bool}{r:TE}{K:Bool->TE->Prop}:(PH C Sg T).unB (.b n :: r) K=K n r:=rfl
def b_unV{n:Value}{r:TE}{K:Value->TE->Prop}:(PH C Sg T).unV (.v n :: r) K=K n r:=rfl
def b_un0{K:Prop}:(PH C Sg T).un0 [] K=K:=rfl
def b_ucI{k:TH}{n:Int}{r:Tl}{K:Int->Tl->Prop}:(PH C Sg T).ucI k (.int k n :: r) K=K n r:=by
 show(k=k/\K n r)=K n r
 simp
def b_ucB{n:Bool}{r:Tl}{K:Bool->Tl->Prop}:(PH C Sg T).ucB (.bool n :: r) K=K n r:=rfl
def b_ucV{n:Value}{r:Tl}{K:Value->Tl->Prop}:(PH C Sg T).ucV (n :: r) K=K n r:=rfl
def b_uc0{K:Prop}:(PH C Sg T).uc0 [] K=K:=rfl
def b_cond_t{X Y:Prop}:(PH C Sg T).cond true X Y=X:=by
 show((true=true->X)/\(true=false->Y))=X
 simp
def b_cond_f{X Y:Prop}:(PH C Sg T).cond false X Y=Y:=by
 show((false=true->X)/\(false=false->Y))=Y
 simp
def b_lss_t{a b:Int}{K:Tn}(h:a<b):(PH C Sg T).cmp .lss a b K=K true:=by
 show K (decide (a<b))=_;rw[qd6 h]
def b_lss_f{a b:Int}{K:Tn}(h:b<=a):(PH C Sg T).cmp .lss a b K=K false:=by
 show K (decide (a<b))=_;rw[qd5 (by omega)]
def b_leq_t{a b:Int}{K:Tn}(h:a<=b):(PH C Sg T).cmp .leq a b K=K true:=by
 show K (decide (a<=b))=_;rw[qd6 h]
def b_leq_f{a b:Int}{K:Tn}(h:b<a):(PH C Sg T).cmp .leq a b K=K false:=by
 show K (decide (a<=b))=_;rw[qd5 (by omega)]
def b_gtr_t{a b:Int}{K:Tn}(h:b<a):(PH C Sg T).cmp .gtr a b K=K true:=by
 show K (decide (a > b))=_;rw[qd6 h]
def b_gtr_f{a b:Int}{K:Tn}(h:a<=b):(PH C Sg T).cmp .gtr a b K=K false:=by
 show K (decide (a > b))=_;rw[qd5 (by omega)]
def b_geq_t{a b:Int}{K:Tn}(h:b<=a):(PH C Sg T).cmp .geq a b K=K true:=by
 show K (decide (a ≥ b))=_;rw[qd6 h]
def b_geq_f{a b:Int}{K:Tn}(h:a<b):(PH C Sg T).cmp .geq a b K=K false:=by
 show K (decide (a ≥ b))=_;rw[qd5 (by omega)]
def b_eql_t{a b:Int}{K:Tn}(h:a=b):(PH C Sg T).cmp .eql a b K=K true:=by
 show K (a==b)=_;rw[beq_iff_eq.2 h]
def b_eql_f{a b:Int}{K:Tn}(h:a≠b):(PH C Sg T).cmp .eql a b K=K false:=by
 show K (a==b)=_;rw[beq_false_of_ne h]
def b_neq_t{a b:Int}{K:Tn}(h:a≠b):(PH C Sg T).cmp .neq a b K=K true:=by
 show K (a != b)=_;rw[bne_iff_ne.2 h]
def b_neq_f{a b:Int}{K:Tn}(h:a=b):(PH C Sg T).cmp .neq a b K=K false:=by
 show K (a != b)=_;subst h;simp
def b_add{a b:Int}{K:Tu}(h1:-9223372036854775808<=a+b)(h2:a+b<=9223372036854775807):(PH C Sg T).ari .add .i64 a b K=K (a+b):=by
 show K (IntKind.wrap .i64 (a+b))=_;rw[db h1 h2]
def b_sub{a b:Int}{K:Tu}(h1:-9223372036854775808<=a - b)(h2:a - b<=9223372036854775807):(PH C Sg T).ari .sub .i64 a b K=K (a - b):=by
 show K (IntKind.wrap .i64 (a - b))=_;rw[db h1 h2]
def b_mul{a b:Int}{K:Tu}(h1:-9223372036854775808<=a*b)(h2:a*b<=9223372036854775807):(PH C Sg T).ari .mul .i64 a b K=K (a*b):=by
 show K (IntKind.wrap .i64 (a*b))=_;rw[db h1 h2]
def b_add8{a b:Int}{K:Tu}(h1:0<=a+b)(h2:a+b<=255):(PH C Sg T).ari .add .u8 a b K=K (a+b):=by
 show K (IntKind.wrap .u8 (a+b))=_;rw[sY h1 h2]
def b_sub8{a b:Int}{K:Tu}(h1:0<=a - b)(h2:a - b<=255):(PH C Sg T).ari .sub .u8 a b K=K (a - b):=by
 show K (IntKind.wrap .u8 (a - b))=_;rw[sY h1 h2]
def b_mul8{a b:Int}{K:Tu}(h1:0<=a*b)(h2:a*b<=255):(PH C Sg T).ari .mul .u8 a b K=K (a*b):=by
 show K (IntKind.wrap .u8 (a*b))=_;rw[sY h1 h2]
def tdiv_nn{a b:Int}(h:0<=a):a.tdiv b=a / b:=Int.tdiv_eq_ediv_of_nonneg h
def b_quo_nn{a b:Int}{K:Tu}(h:0<=a)(hb:0<b)(h2:a<=9223372036854775807):(PH C Sg T).ari .quo .i64 a b K=K (a / b):=by
 show(b≠0/\K (IntKind.wrap .i64 (a.tdiv b)))=_
 have h3:a / b<=a:=Int.ediv_le_self b h
 have h4:0<=a / b:=Int.ediv_nonneg h (by omega)
 rw[tdiv_nn h,db (by omega) (by omega)]
 simp;intro _ h;omega
def b_quo_dv{a b:Int}{K:Tu}(h:a%b=0)(hb:0<b)(h1:-9223372036854775808<=a)(h2:a<=9223372036854775807):(PH C Sg T).ari .quo .i64 a b K=K (a / b):=by
 show(b≠0/\K (IntKind.wrap .i64 (a.tdiv b)))=_
 obtain⟨q,rfl⟩:=Int.dvd_of_emod_eq_zero h
 rw[Int.mul_tdiv_cancel_left q (by omega),Int.mul_ediv_cancel_left q (by omega)]
 have hq:-9223372036854775808<=q/\q<=9223372036854775807:=by
  rcases qcn 0 q with hs|hs
  ·have:=qco (show(1:Int)<=b by omega) hs
   omega
  ·have:=qco (show(1:Int)<=b by omega) (show 0<=-q by omega)
   rw[Int.mul_neg b q]at this
   omega
 rw[db hq.1 hq.2]
 simp;intro _ h;omega
def b_rem_nn{k:TH}{a b:Int}{K:Tu}(h:0<=a)(hb:0<b):(PH C Sg T).ari .rem k a b K=K (a%b):=by
 show(b≠0/\K (a.tmod b))=_
 rw[qdq h]
 simp;intro _ h;omega
def b_rem_np{k:TH}{a b:Int}{K:Tu}(h:a<=0)(hb:0<b):(PH C Sg T).ari .rem k a b K=K (-((-a)%b)):=by
 show(b≠0/\K (a.tmod b))=_
 have:a.tmod b = -((-a)%b):=by
  have h1:=Int.neg_tmod a b
  rw[qdq (a:=-a) (by omega)]at h1
  omega
 rw[this]
 simp;intro _ h;omega
def b_and1{a:Int}{K:Tu}:(PH C Sg T).ari .and .i64 a 1 K=K (a%2):=by
 show(((1:Int)=1/\K (a%2))∨((1:Int)≠1/\∃n,qV .and .i64 a 1 n/\K n))=K (a%2)
 simp
def b_conv{a:Int}{K:Tu}(h1:-9223372036854775808<=a)(h2:a<=9223372036854775807):(PH C Sg T).conv .i64 a K=K a:=by
 show K (IntKind.wrap .i64 a)=_;rw[db h1 h2]
def b_conv8{a:Int}{K:Tu}(h1:0<=a)(h2:a<=255):(PH C Sg T).conv .u8 a K=K a:=by
 show K (IntKind.wrap .u8 a)=_;rw[sY h1 h2]
def b_sel_t{a b:Int}{K:Tu}:(PH C Sg T).sel true a b K=K a:=rfl
def b_sel_f{a b:Int}{K:Tu}:(PH C Sg T).sel false a b K=K b:=rfl
def b_opt{α:Type}{x:α}{K:α->Prop}:(PH C Sg T).opt (some x) K=K x:=by
 show(∃y,some x=some y/\K y)=K x
 simp
def b_inB{n:Nat}{i:Int}{K:Unit->Prop}(h1:0<=i)(h2:i<(n:Int)):(PH C Sg T).opt (inB n i) K=K ():=by
 rw[show inB n i=some ()from(inB_eq n i).trans (qd7 ⟨h1,h2⟩),b_opt]
def b_join{b:Td}{m:(TE->HL->Prop)->Prop}:(PH C Sg T).join b m=m b:=rfl
def b_eqs0{K:Tn}:(PH C Sg T).eqs [] K=K true:=rfl
def b_eqs_t{a b:Int}{l:List (Lf×Lf)}{K:Tn}(h:a=b):(PH C Sg T).eqs ((.i a,.i b) :: l) K=(PH C Sg T).eqs l K:=by
 show K (ch _)=K (ch l)
 subst h
 simp[ch,gY]
def b_eqs_f{a b:Int}{l:List (Lf×Lf)}{K:Tn}(h:a≠b):(PH C Sg T).eqs ((.i a,.i b) :: l) K=K false:=by
 show K (ch _)=K false
 have:(a==b)=false:=beq_false_of_ne h
 simp[ch,gY,this]
def uD{F:(TE->HL->Prop)->TE->HL->Prop}{ls:TE}{h:HL}(n:Nat)(hn:itH F n ls h):(PH C Sg T).loop F ls h:=⟨n,hn⟩
def b_it{F:(TE->HL->Prop)->TE->HL->Prop}{n:Nat}{ls:TE}{h:HL}:itH F (n+1) ls h=F (itH F n) ls h:=rfl
def af{g:TQ}{ls rs:TE}{h:HL}{K:Td}(hc:∀H,aw C Sg g ls H rs H)(hk:K rs h):(PH C Sg T).call g ls h (@hid _ ⟨K⟩):=⟨rs,h,hc _,hk⟩
def b_eqsb_t{a b:Bool}{l:List (Lf×Lf)}{K:Tn}(h:a=b):(PH C Sg T).eqs ((.b a,.b b) :: l) K=(PH C Sg T).eqs l K:=by
 show K (ch _)=K (ch l)
 subst h
 simp[ch,gY]
def b_eqsb_tf{l:List (Lf×Lf)}{K:Tn}:(PH C Sg T).eqs ((.b true,.b false) :: l) K=K false:=rfl
def b_eqsb_ft{l:List (Lf×Lf)}{K:Tn}:(PH C Sg T).eqs ((.b false,.b true) :: l) K=K false:=rfl
def b_mul_1{b:Int}{K:Tu}(h1:-9223372036854775808<=b)(h2:b<=9223372036854775807):(PH C Sg T).ari .mul .i64 1 b K=K b:=by
 show K (IntKind.wrap .i64 (1*b))=_;rw[Int.one_mul,db h1 h2]
def b_mul_0{b:Int}{K:Tu}:(PH C Sg T).ari .mul .i64 0 b K=K 0:=by
 show K (IntKind.wrap .i64 (0*b))=_;rw[Int.zero_mul];rfl
def b_mul_m{b:Int}{K:Tu}(h1:-9223372036854775808<=-b)(h2:-b<=9223372036854775807):(PH C Sg T).ari .mul .i64 (-1) b K=K (-b):=by
 show K (IntKind.wrap .i64 (-1*b))=_
 have:(-1*b:Int) = -b:=by omega
 rw[this,db h1 h2]
def b_mul_r1{b:Int}{K:Tu}(h1:-9223372036854775808<=b)(h2:b<=9223372036854775807):(PH C Sg T).ari .mul .i64 b 1 K=K b:=by
 show K (IntKind.wrap .i64 (b*1))=_;rw[Int.mul_one,db h1 h2]
def b_mul_r0{b:Int}{K:Tu}:(PH C Sg T).ari .mul .i64 b 0 K=K 0:=by
 show K (IntKind.wrap .i64 (b*0))=_;rw[Int.mul_zero];rfl
def b_mul_rm{b:Int}{K:Tu}(h1:-9223372036854775808<=-b)(h2:-b<=9223372036854775807):(PH C Sg T).ari .mul .i64 b (-1) K=K (-b):=by
 show K (IntKind.wrap .i64 (b * -1))=_
 have:(b * -1:Int) = -b:=by omega
 rw[this,db h1 h2]
def b_add_0{b:Int}{K:Tu}(h1:-9223372036854775808<=b)(h2:b<=9223372036854775807):(PH C Sg T).ari .add .i64 0 b K=K b:=by
 show K (IntKind.wrap .i64 (0+b))=_;rw[qdP,db h1 h2]
def b_add_r0{b:Int}{K:Tu}(h1:-9223372036854775808<=b)(h2:b<=9223372036854775807):(PH C Sg T).ari .add .i64 b 0 K=K b:=by
 show K (IntKind.wrap .i64 (b+0))=_;rw[Int.add_zero,db h1 h2]
def b_add_11{K:Tu}:(PH C Sg T).ari .add .i64 1 1 K=K 2:=by
 show K (IntKind.wrap .i64 (1+1))=_;rfl
def b_quo_1{a:Int}{K:Tu}(h1:-9223372036854775808<=a)(h2:a<=9223372036854775807):(PH C Sg T).ari .quo .i64 a 1 K=K a:=by
 show((1:Int)≠0/\K (IntKind.wrap .i64 (a.tdiv 1)))=_
 rw[Int.tdiv_one,db h1 h2];simp
def p_ari_2{op:BinOp}{k:TH}{a b b':Int}{K:Tu}(hb:b=b')(h:(PH C Sg T).ari op k a b' K):(PH C Sg T).ari op k a b K:=by rw[hb];exact h
def au{α:Type}{o:Option α}{x:α}{K:α->Prop}(h:o=some x)(hk:K x):(PH C Sg T).opt o (@hid _ ⟨K⟩):=⟨x,h,hk⟩
theorem p_unI{n:Int}{r:TE}{K:Int->TE->Prop}:(PH C Sg T).unI (.i n :: r) (@hid _ ⟨K⟩)=K n r:=b_unI
theorem p_unB{n:Bool}{r:TE}{K:Bool->TE->Prop}:(PH C Sg T).unB (.b n :: r) (@hid _ ⟨K⟩)=K n r:=b_unB
theorem p_unV{n:Value}{r:TE}{K:Value->TE->Prop}:(PH C Sg T).unV (.v n :: r) (@hid _ ⟨K⟩)=K n r:=b_unV
theorem p_un0{K:Prop}:(PH C Sg T).un0 [] (@hid _ ⟨K⟩)=K:=b_un0
theorem p_ucI{k:TH}{n:Int}{r:Tl}{K:Int->Tl->Prop}:(PH C Sg T).ucI k (.int k n :: r) (@hid _ ⟨K⟩)=K n r:=b_ucI
theorem p_ucB{n:Bool}{r:Tl}{K:Bool->Tl->Prop}:(PH C Sg T).ucB (.bool n :: r) (@hid _ ⟨K⟩)=K n r:=b_ucB
theorem p_ucV{n:Value}{r:Tl}{K:Value->Tl->Prop}:(PH C Sg T).ucV (n :: r) (@hid _ ⟨K⟩)=K n r:=b_ucV
theorem p_uc0{K:Prop}:(PH C Sg T).uc0 [] (@hid _ ⟨K⟩)=K:=b_uc0
theorem p_cond_t{X Y:Prop}:(PH C Sg T).cond true (@hid _ ⟨X⟩) Y=X:=b_cond_t
theorem p_cond_f{X Y:Prop}:(PH C Sg T).cond false X (@hid _ ⟨Y⟩)=Y:=b_cond_f
theorem p_lss_t{a b:Int}{K:Tn}(h:a<b):(PH C Sg T).cmp .lss a b (@hid _ ⟨K⟩)=K true:=b_lss_t h
theorem p_lss_f{a b:Int}{K:Tn}(h:b<=a):(PH C Sg T).cmp .lss a b (@hid _ ⟨K⟩)=K false:=b_lss_f h
theorem p_leq_t{a b:Int}{K:Tn}(h:a<=b):(PH C Sg T).cmp .leq a b (@hid _ ⟨K⟩)=K true:=b_leq_t h
theorem p_leq_f{a b:Int}{K:Tn}(h:b<a):(PH C Sg T).cmp .leq a b (@hid _ ⟨K⟩)=K false:=b_leq_f h
theorem p_gtr_t{a b:Int}{K:Tn}(h:b<a):(PH C Sg T).cmp .gtr a b (@hid _ ⟨K⟩)=K true:=b_gtr_t h
theorem p_gtr_f{a b:Int}{K:Tn}(h:a<=b):(PH C Sg T).cmp .gtr a b (@hid _ ⟨K⟩)=K false:=b_gtr_f h
theorem p_geq_t{a b:Int}{K:Tn}(h:b<=a):(PH C Sg T).cmp .geq a b (@hid _ ⟨K⟩)=K true:=b_geq_t h
theorem p_geq_f{a b:Int}{K:Tn}(h:a<b):(PH C Sg T).cmp .geq a b (@hid _ ⟨K⟩)=K false:=b_geq_f h
theorem p_eql_t{a b:Int}{K:Tn}(h:a=b):(PH C Sg T).cmp .eql a b (@hid _ ⟨K⟩)=K true:=b_eql_t h
theorem p_eql_f{a b:Int}{K:Tn}(h:a≠b):(PH C Sg T).cmp .eql a b (@hid _ ⟨K⟩)=K false:=b_eql_f h
theorem p_neq_t{a b:Int}{K:Tn}(h:a≠b):(PH C Sg T).cmp .neq a b (@hid _ ⟨K⟩)=K true:=b_neq_t h
theorem p_neq_f{a b:Int}{K:Tn}(h:a=b):(PH C Sg T).cmp .neq a b (@hid _ ⟨K⟩)=K false:=b_neq_f h
theorem p_add{a b:Int}{K:Tu}(h1:-9223372036854775808<=a+b)(h2:a+b<=9223372036854775807):(PH C Sg T).ari .add .i64 a b (@hid _ ⟨K⟩)=K (a+b):=b_add h1 h2
theorem p_sub{a b:Int}{K:Tu}(h1:-9223372036854775808<=a - b)(h2:a - b<=9223372036854775807):(PH C Sg T).ari .sub .i64 a b (@hid _ ⟨K⟩)=K (a - b):=b_sub h1 h2
theorem p_mul{a b:Int}{K:Tu}(h1:-9223372036854775808<=a*b)(h2:a*b<=9223372036854775807):(PH C Sg T).ari .mul .i64 a b (@hid _ ⟨K⟩)=K (a*b):=b_mul h1 h2
theorem p_add8{a b:Int}{K:Tu}(h1:0<=a+b)(h2:a+b<=255):(PH C Sg T).ari .add .u8 a b (@hid _ ⟨K⟩)=K (a+b):=b_add8 h1 h2
theorem p_sub8{a b:Int}{K:Tu}(h1:0<=a - b)(h2:a - b<=255):(PH C Sg T).ari .sub .u8 a b (@hid _ ⟨K⟩)=K (a - b):=b_sub8 h1 h2
theorem p_mul8{a b:Int}{K:Tu}(h1:0<=a*b)(h2:a*b<=255):(PH C Sg T).ari .mul .u8 a b (@hid _ ⟨K⟩)=K (a*b):=b_mul8 h1 h2
theorem p_quo_nn{a b:Int}{K:Tu}(h:0<=a)(hb:0<b)(h2:a<=9223372036854775807):(PH C Sg T).ari .quo .i64 a b (@hid _ ⟨K⟩)=K (a / b):=b_quo_nn h hb h2
theorem p_quo_dv{a b:Int}{K:Tu}(h:a%b=0)(hb:0<b)(h1:-9223372036854775808<=a)(h2:a<=9223372036854775807):(PH C Sg T).ari .quo .i64 a b (@hid _ ⟨K⟩)=K (a / b):=b_quo_dv h hb h1 h2
theorem p_rem_nn{k:TH}{a b:Int}{K:Tu}(h:0<=a)(hb:0<b):(PH C Sg T).ari .rem k a b (@hid _ ⟨K⟩)=K (a%b):=b_rem_nn h hb
theorem p_rem_np{k:TH}{a b:Int}{K:Tu}(h:a<=0)(hb:0<b):(PH C Sg T).ari .rem k a b (@hid _ ⟨K⟩)=K (-((-a)%b)):=b_rem_np h hb
theorem p_and1{a:Int}{K:Tu}:(PH C Sg T).ari .and .i64 a 1 (@hid _ ⟨K⟩)=K (a%2):=b_and1
theorem p_conv{a:Int}{K:Tu}(h1:-9223372036854775808<=a)(h2:a<=9223372036854775807):(PH C Sg T).conv .i64 a (@hid _ ⟨K⟩)=K a:=b_conv h1 h2
theorem p_conv8{a:Int}{K:Tu}(h1:0<=a)(h2:a<=255):(PH C Sg T).conv .u8 a (@hid _ ⟨K⟩)=K a:=b_conv8 h1 h2
theorem p_sel_t{a b:Int}{K:Tu}:(PH C Sg T).sel true a b (@hid _ ⟨K⟩)=K a:=b_sel_t
theorem p_sel_f{a b:Int}{K:Tu}:(PH C Sg T).sel false a b (@hid _ ⟨K⟩)=K b:=b_sel_f
theorem p_opt{α:Type}{x:α}{K:α->Prop}:(PH C Sg T).opt (some x) (@hid _ ⟨K⟩)=K x:=b_opt
theorem p_inB{n:Nat}{i:Int}{K:Unit->Prop}(h1:0<=i)(h2:i<(n:Int)):(PH C Sg T).opt (inB n i) (@hid _ ⟨K⟩)=K ():=b_inB h1 h2
theorem p_join{b:Td}{m:(TE->HL->Prop)->Prop}:(PH C Sg T).join (@hid _ ⟨b⟩) (@hid _ ⟨m⟩)=m (@hid _ ⟨b⟩):=b_join
theorem p_eqs0{K:Tn}:(PH C Sg T).eqs [] (@hid _ ⟨K⟩)=K true:=b_eqs0
theorem p_eqs_t{a b:Int}{l:List (Lf×Lf)}{K:Tn}(h:a=b):(PH C Sg T).eqs ((.i a,.i b) :: l) (@hid _ ⟨K⟩)=(PH C Sg T).eqs l (@hid _ ⟨K⟩):=b_eqs_t h
theorem p_eqs_f{a b:Int}{l:List (Lf×Lf)}{K:Tn}(h:a≠b):(PH C Sg T).eqs ((.i a,.i b) :: l) (@hid _ ⟨K⟩)=K false:=b_eqs_f h
theorem p_it{F:(TE->HL->Prop)->TE->HL->Prop}{n:Nat}{ls:TE}{h:HL}:itH (@hid _ ⟨F⟩) (n+1) ls h=F (itH (@hid _ ⟨F⟩) n) ls h:=b_it
theorem p_eqsb_t{a b:Bool}{l:List (Lf×Lf)}{K:Tn}(h:a=b):(PH C Sg T).eqs ((.b a,.b b) :: l) (@hid _ ⟨K⟩)=(PH C Sg T).eqs l (@hid _ ⟨K⟩):=b_eqsb_t h
theorem p_eqsb_tf{l:List (Lf×Lf)}{K:Tn}:(PH C Sg T).eqs ((.b true,.b false) :: l) (@hid _ ⟨K⟩)=K false:=b_eqsb_tf
theorem p_eqsb_ft{l:List (Lf×Lf)}{K:Tn}:(PH C Sg T).eqs ((.b false,.b true) :: l) (@hid _ ⟨K⟩)=K false:=b_eqsb_ft
theorem p_mul_1{b:Int}{K:Tu}(h1:-9223372036854775808<=b)(h2:b<=9223372036854775807):(PH C Sg T).ari .mul .i64 1 b (@hid _ ⟨K⟩)=K b:=b_mul_1 h1 h2
theorem p_mul_0{b:Int}{K:Tu}:(PH C Sg T).ari .mul .i64 0 b (@hid _ ⟨K⟩)=K 0:=b_mul_0
theorem p_mul_m{b:Int}{K:Tu}(h1:-9223372036854775808<=-b)(h2:-b<=9223372036854775807):(PH C Sg T).ari .mul .i64 (-1) b (@hid _ ⟨K⟩)=K (-b):=b_mul_m h1 h2
theorem p_mul_r1{b:Int}{K:Tu}(h1:-9223372036854775808<=b)(h2:b<=9223372036854775807):(PH C Sg T).ari .mul .i64 b 1 (@hid _ ⟨K⟩)=K b:=b_mul_r1 h1 h2
theorem p_mul_r0{b:Int}{K:Tu}:(PH C Sg T).ari .mul .i64 b 0 (@hid _ ⟨K⟩)=K 0:=b_mul_r0
theorem p_mul_rm{b:Int}{K:Tu}(h1:-9223372036854775808<=-b)(h2:-b<=9223372036854775807):(PH C Sg T).ari .mul .i64 b (-1) (@hid _ ⟨K⟩)=K (-b):=b_mul_rm h1 h2
theorem p_add_0{b:Int}{K:Tu}(h1:-9223372036854775808<=b)(h2:b<=9223372036854775807):(PH C Sg T).ari .add .i64 0 b (@hid _ ⟨K⟩)=K b:=b_add_0 h1 h2
theorem p_add_r0{b:Int}{K:Tu}(h1:-9223372036854775808<=b)(h2:b<=9223372036854775807):(PH C Sg T).ari .add .i64 b 0 (@hid _ ⟨K⟩)=K b:=b_add_r0 h1 h2
theorem p_add_11{K:Tu}:(PH C Sg T).ari .add .i64 1 1 (@hid _ ⟨K⟩)=K 2:=b_add_11
theorem p_quo_1{a:Int}{K:Tu}(h1:-9223372036854775808<=a)(h2:a<=9223372036854775807):(PH C Sg T).ari .quo .i64 a 1 (@hid _ ⟨K⟩)=K a:=b_quo_1 h1 h2
theorem p_hid2{f:Td}{a:TE}{b:HL}:@hid _ ⟨f⟩ a b=f a b:=rfl
theorem p_eqs2_f{a b c d:Int}{K:Tn}(h:¬(a=c/\b=d)):(PH C Sg T).eqs [(.i a,.i c),(.i b,.i d)] (@hid _ ⟨K⟩)=K false:=by
 show K (ch _)=K false
 have:ch [(.i a,.i c),(.i b,.i d)]=false:=by
  rw[qcY]
  simpa[ch,gY]using h
 rw[this]
theorem p_eqs3_f{a b c d e f:Int}{K:Tn}(h:¬(a=d/\b=e/\c=f)):(PH C Sg T).eqs [(.i a,.i d),(.i b,.i e),(.i c,.i f)] (@hid _ ⟨K⟩)=K false:=by
 show K (ch _)=K false
 have:ch [(.i a,.i d),(.i b,.i e),(.i c,.i f)]=false:=by
  rw[qcY]
  simpa[ch,gY]using h
 rw[this]
def ai{g:TQ}{ls rs:TE}{h h':HL}{K:Td}(hc:aw C Sg g ls (absH T h) rs (absH T h'))(hk:K rs h'):(PH C Sg T).call g ls h (@hid _ ⟨K⟩):=⟨rs,h',hc,hk⟩
def jS{g:TQ}{sg:Sig}{ls rs:TE}{H H':Ts}(hc:aw C Sg g ls H rs H')(hs:Sg g=some sg)(xs:List S0)(h1:bQ xs sg.ps=true)(h2:bT xs=ls) :
  th C (.func (.func g) #[] #[]) (ah xs) sg.rs H rs H':=by
 obtain⟨sg',xs',ys,c1,c2,c3,c4⟩:=hc
 rw[hs]at c1
 cases c1
 obtain⟨w1,_⟩:=cM c2.1 h1 (c2.2.1.trans h2.symm)
 rw[w1]at c4
 exact⟨ys,c3,.inl ⟨g,#[],#[],rfl,by simpa using c4⟩⟩
def iE{v:Value}{args:Tl}{hs:TK}{rs:TE}{h h':HL}{K:Td}(hc:th C v args hs (absH T h) rs (absH T h'))(hk:K rs h'):(PH C Sg T).callv v args hs h (@hid _ ⟨K⟩):=⟨rs,h',hc,hk⟩
theorem p_new{o:HObj}{h:HL}{K:Nat->HL->Prop}:(PH C Sg T).new o h (@hid _ ⟨K⟩)=K h.length (h++[.o o]):=rfl
def aH{v:Value}{K:Prop}(h:aT v=true)(hk:K):(PH C Sg T).chk v (@hid _ ⟨K⟩):=⟨h,hk⟩
def cU{f:Hp}{h:HL}{K:Ta}{acts:List Act1}{cs:Tl}(e:f.run (getH T h) h.length=some (acts,cs))(hk:K cs (bS h acts)):(PH C Sg T).heap f h (@hid _ ⟨K⟩):=⟨acts,cs,e,hk⟩
def eG{f:Pk}{h:HL}{K:Te}{cs:Tl}(e:f.run (getH T h)=some cs)(hk:K cs):(PH C Sg T).peek f h (@hid _ ⟨K⟩):=⟨cs,e,hk⟩
def pxs(C:Cfg)(Sg:Tc)(T:Tt):=And.intro @p_hid2 (And.intro (@p_new _ _ C Sg T) (And.intro (@p_unI _ _ C Sg T) (And.intro (@p_unB _ _ C Sg T) (And.intro (@p_unV _ _ C Sg T) (And.intro (@p_un0 _ _ C Sg T) (And.intro (@p_ucI _ _ C Sg T) (And.intro (@p_ucB _ _ C Sg T) (And.intro (@p_ucV _ _ C Sg T) (And.intro (@p_uc0 _ _ C Sg T) (And.intro (@p_cond_t _ _ C Sg T) (And.intro (@p_cond_f _ _ C Sg T) (And.intro (@p_opt _ _ C Sg T) (And.intro (@p_inB _ _ C Sg T) (And.intro (@p_join _ _ C Sg T) (And.intro (@p_sel_t _ _ C Sg T) (And.intro (@p_sel_f _ _ C Sg T) ((@p_it))))))))))))))))))
def pxc(C:Cfg)(Sg:Tc)(T:Tt):=And.intro (@p_lss_t _ _ C Sg T) (And.intro (@p_lss_f _ _ C Sg T) (And.intro (@p_leq_t _ _ C Sg T) (And.intro (@p_leq_f _ _ C Sg T) (And.intro (@p_gtr_t _ _ C Sg T) (And.intro (@p_gtr_f _ _ C Sg T) (And.intro (@p_geq_t _ _ C Sg T) (And.intro (@p_geq_f _ _ C Sg T) (And.intro (@p_eql_t _ _ C Sg T) (And.intro (@p_eql_f _ _ C Sg T) (And.intro (@p_neq_t _ _ C Sg T) (And.intro (@p_neq_f _ _ C Sg T) (And.intro (@p_eqs0 _ _ C Sg T) (And.intro (@p_eqs_t _ _ C Sg T) (And.intro (@p_eqs_f _ _ C Sg T) (And.intro (@p_eqs2_f _ _ C Sg T) (And.intro (@p_eqs3_f _ _ C Sg T) (And.intro (@p_eqsb_t _ _ C Sg T) (And.intro (@p_eqsb_tf _ _ C Sg T) ((@p_eqsb_ft _ _ C Sg T))))))))))))))))))))
def pxa(C:Cfg)(Sg:Tc)(T:Tt):=And.intro (@p_mul_1 _ _ C Sg T) (And.intro (@p_mul_0 _ _ C Sg T) (And.intro (@p_mul_m _ _ C Sg T) (And.intro (@p_mul_r1 _ _ C Sg T) (And.intro (@p_mul_r0 _ _ C Sg T) (And.intro (@p_mul_rm _ _ C Sg T) (And.intro (@p_add_0 _ _ C Sg T) (And.intro (@p_add_r0 _ _ C Sg T) (And.intro (@p_add_11 _ _ C Sg T) (And.intro (@p_quo_1 _ _ C Sg T) (And.intro (@p_add _ _ C Sg T) (And.intro (@p_sub _ _ C Sg T) (And.intro (@p_mul _ _ C Sg T) (And.intro (@p_add8 _ _ C Sg T) (And.intro (@p_sub8 _ _ C Sg T) (And.intro (@p_mul8 _ _ C Sg T) (And.intro (@p_quo_nn _ _ C Sg T) (And.intro (@p_quo_dv _ _ C Sg T) (And.intro (@p_rem_nn _ _ C Sg T) (And.intro (@p_rem_np _ _ C Sg T) (And.intro (@p_and1 _ _ C Sg T) (And.intro (@p_conv _ _ C Sg T) ((@p_conv8 _ _ C Sg T)))))))))))))))))))))))
end
end Sx
namespace Sx
section
variable [Val] [Kno]
variable {C:Cfg} {Sg:Tc} {T:Tt}
def xi{h:HL}{l κ:Nat}{st:LoopState}{pd:Tk}{vs:Tl}(e:h[l]?=some (.lp κ st pd vs)):ea (absH T h) l=some { lpOf (T κ) κ vs with state:=st,pending:=pd }:=by
 unfold ea absH
 rw[qan,e]
 rfl
def absH_app1(h:HL)(o:HO):absH T (h++[o])=absH T h++[absO T o]:=by simp[absH]
def p_rfun{g:TQ}{first cap:Tj}{κ:Nat}{vals:Tl}{h h1:HL}{ls rs:TE}{K:Tk->HL->Prop}{κ':Nat}{st:LoopState}{pd:Tk}{vs:Tl}{sg:Sig}{xs:List S0}
  (hc:aw C Sg g ls (absH T (h++[.lp κ .ready none vals])) rs (absH T h1)) (hs:Sg g=some sg) (h2:bQ xs sg.ps=true) (h3:bT xs=ls) (h4:ah xs=first.toList++[.func (.yield h.length) #[] #[]]++cap.toList)
  (hl:h1[h.length]?=some (.lp κ' st pd vs)) (hst:st≠.busy) (hk:K pd (h1.set h.length (.lp κ' .exhausted pd vs))):(PH C Sg T).rfun κ (.func (.func g) first cap) vals h (@hid _ ⟨K⟩):=by
 obtain⟨sg',xs',ys,c1,c2,c3,c4⟩:=hc
 rw[hs]at c1
 cases c1
 have hlen:(absH T h).length=h.length:=cT T h
 obtain⟨w1,_⟩:=cM c2.1 h2 (c2.2.1.trans h3.symm)
 rw[w1,h4,absH_app1]at c4
 refine⟨g,first,cap,eH (ah ys),absH T h1,{ lpOf (T κ') κ' vs with state:=st,pending:=pd },h1.set h.length (.lp κ' .exhausted pd vs),rfl,?_,?_,hst,?_,hk⟩
 ·rw[hlen];exact c4
 ·rw[hlen];exact xi hl
 ·rw[hlen]
  simp[absH,absO,qc7]
def nB{h:HL}{l:Nat}{o:HO}:absH T (h.set l o)=(absH T h).set l (absO T o):=by
 unfold absH
 rw[qc7]
def p_lp1{l κ:Nat}{pd:Tk}{vs:Tl}{h:HL}{K:HL->Prop}(hl:h[l]?=some (.lp κ .ready pd vs))(hk:K (h.set l (.lp κ .busy pd vs))):(PH C Sg T).lp1 l h (@hid _ ⟨K⟩):=
 ⟨{ lpOf (T κ) κ vs with state:=.ready,pending:=pd },h.set l (.lp κ .busy pd vs),xi hl,rfl,nB,hk⟩
def p_lp2{l κ:Nat}{st:LoopState}{pd:Tk}{vs:Tl}{h:HL}{K:HL->Prop}(hl:h[l]?=some (.lp κ st pd vs))(hk:K (h.set l (.lp κ .ready none vs))):(PH C Sg T).lp2 l none h (@hid _ ⟨K⟩):=
 ⟨{ lpOf (T κ) κ vs with state:=st,pending:=pd },h.set l (.lp κ .ready none vs),xi hl,nB,hk⟩
def p_callY{l:Nat}{ys:List S0}{b:Bool}{h h':HL}{K:Td}(hu:fZ C l (ah ys) (absH T h) (.bool b) (absH T h'))(hk:K [.b b] h'):(PH C Sg T).callv (.func (.yield l) #[] #[]) (ah ys) [.leaf .b] h (@hid _ ⟨K⟩):=
 ⟨[.b b],h',⟨[.leaf (.b b)],⟨rfl,rfl,λx hx=>by
  simp only[qaw]at hx
  subst hx
  intro y hy
  simp only[S0.cells,qaw]at hy
  subst hy;trivial⟩,.inr ⟨l,rfl,hu⟩⟩,hk⟩
end
end Sx
namespace Sx
open Go.Proofs
def hA(A:Alg Prop HL):Alg Prop HL where
 fail:=A.fail
 cond b x y:=A.cond b (@hid _ ⟨x⟩) (@hid _ ⟨y⟩)
 ari o k a b K:=A.ari o k a b (@hid _ ⟨K⟩)
 shf o k a l b K:=A.shf o k a l b (@hid _ ⟨K⟩)
 cmp o a b K:=A.cmp o a b (@hid _ ⟨K⟩)
 eqs l K:=A.eqs l (@hid _ ⟨K⟩)
 conv k a K:=A.conv k a (@hid _ ⟨K⟩)
 sel t a b K:=A.sel t a b (@hid _ ⟨K⟩)
 opt o K:=A.opt o (@hid _ ⟨K⟩)
 chk v x:=A.chk v (@hid _ ⟨x⟩)
 unI l K:=A.unI l (@hid _ ⟨K⟩)
 unB l K:=A.unB l (@hid _ ⟨K⟩)
 unV l K:=A.unV l (@hid _ ⟨K⟩)
 un0 l x:=A.un0 l (@hid _ ⟨x⟩)
 ucI k l K:=A.ucI k l (@hid _ ⟨K⟩)
 ucB l K:=A.ucB l (@hid _ ⟨K⟩)
 ucV l K:=A.ucV l (@hid _ ⟨K⟩)
 uc0 l x:=A.uc0 l (@hid _ ⟨x⟩)
 peek f h K:=A.peek f h (@hid _ ⟨K⟩)
 heap f h K:=A.heap f h (@hid _ ⟨K⟩)
 new o h K:=A.new o h (@hid _ ⟨K⟩)
 call g l h K:=A.call g l h (@hid _ ⟨K⟩)
 callv v a s h K:=A.callv v a s h (@hid _ ⟨K⟩)
 join b m:=A.join (@hid _ ⟨b⟩) (@hid _ ⟨m⟩)
 loop F l h:=A.loop (@hid _ ⟨F⟩) l h
 rfun n v a h K:=A.rfun n v a h (@hid _ ⟨K⟩)
 pend o x y l:=A.pend o (@hid _ ⟨x⟩) (@hid _ ⟨y⟩) l
 lp1 n h K:=A.lp1 n h (@hid _ ⟨K⟩)
 lp2 n o h K:=A.lp2 n o h (@hid _ ⟨K⟩)
def hA_eq(A:Alg Prop HL):hA A=A:=rfl
section
variable {A:Alg Prop HL}
theorem h_cond{b:Bool}{x y:Prop}:(hA A).cond b x y=A.cond b (@hid _ ⟨x⟩) (@hid _ ⟨y⟩):=rfl
theorem h_ari{o:BinOp}{k:TH}{a b:Int}{K:Tu}:(hA A).ari o k a b K=A.ari o k a b (@hid _ ⟨K⟩):=rfl
theorem h_shf{o:BinOp}{k l:TH}{a b:Int}{K:Tu}:(hA A).shf o k a l b K=A.shf o k a l b (@hid _ ⟨K⟩):=rfl
theorem h_cmp{o:BinOp}{a b:Int}{K:Tn}:(hA A).cmp o a b K=A.cmp o a b (@hid _ ⟨K⟩):=rfl
theorem h_eqs{l:List (Lf×Lf)}{K:Tn}:(hA A).eqs l K=A.eqs l (@hid _ ⟨K⟩):=rfl
theorem h_conv{k:TH}{a:Int}{K:Tu}:(hA A).conv k a K=A.conv k a (@hid _ ⟨K⟩):=rfl
theorem h_sel{t:Bool}{a b:Int}{K:Tu}:(hA A).sel t a b K=A.sel t a b (@hid _ ⟨K⟩):=rfl
theorem h_opt{α:Type}{o:Option α}{K:α->Prop}:(hA A).opt o K=A.opt o (@hid _ ⟨K⟩):=rfl
theorem h_chk{v:Value}{x:Prop}:(hA A).chk v x=A.chk v (@hid _ ⟨x⟩):=rfl
theorem h_unI{l:TE}{K:Int->TE->Prop}:(hA A).unI l K=A.unI l (@hid _ ⟨K⟩):=rfl
theorem h_unB{l:TE}{K:Bool->TE->Prop}:(hA A).unB l K=A.unB l (@hid _ ⟨K⟩):=rfl
theorem h_unV{l:TE}{K:Value->TE->Prop}:(hA A).unV l K=A.unV l (@hid _ ⟨K⟩):=rfl
theorem h_un0{l:TE}{x:Prop}:(hA A).un0 l x=A.un0 l (@hid _ ⟨x⟩):=rfl
theorem h_ucI{k:TH}{l:Tl}{K:Int->Tl->Prop}:(hA A).ucI k l K=A.ucI k l (@hid _ ⟨K⟩):=rfl
theorem h_ucB{l:Tl}{K:Bool->Tl->Prop}:(hA A).ucB l K=A.ucB l (@hid _ ⟨K⟩):=rfl
theorem h_ucV{l:Tl}{K:Value->Tl->Prop}:(hA A).ucV l K=A.ucV l (@hid _ ⟨K⟩):=rfl
theorem h_uc0{l:Tl}{x:Prop}:(hA A).uc0 l x=A.uc0 l (@hid _ ⟨x⟩):=rfl
theorem h_peek{f:Pk}{h:HL}{K:Te}:(hA A).peek f h K=A.peek f h (@hid _ ⟨K⟩):=rfl
theorem h_heap{f:Hp}{h:HL}{K:Ta}:(hA A).heap f h K=A.heap f h (@hid _ ⟨K⟩):=rfl
theorem h_new{o:HObj}{h:HL}{K:Nat->HL->Prop}:(hA A).new o h K=A.new o h (@hid _ ⟨K⟩):=rfl
theorem h_call{g:TQ}{l:TE}{h:HL}{K:Td}:(hA A).call g l h K=A.call g l h (@hid _ ⟨K⟩):=rfl
theorem h_callv{v:Value}{a:Tl}{s:TK}{h:HL}{K:Td}:(hA A).callv v a s h K=A.callv v a s h (@hid _ ⟨K⟩):=rfl
theorem h_join{b:Td}{m:(TE->HL->Prop)->Prop}:(hA A).join b m=A.join (@hid _ ⟨b⟩) (@hid _ ⟨m⟩):=rfl
theorem h_loop{F:(TE->HL->Prop)->TE->HL->Prop}{l:TE}{h:HL}:(hA A).loop F l h=A.loop (@hid _ ⟨F⟩) l h:=rfl
theorem h_rfun{n:Nat}{v:Value}{a:Tl}{h:HL}{K:Tk->HL->Prop}:(hA A).rfun n v a h K=A.rfun n v a h (@hid _ ⟨K⟩):=rfl
theorem h_pend{o:Tk}{x y:Prop}{l:List (Nat×Prop)}:(hA A).pend o x y l=A.pend o (@hid _ ⟨x⟩) (@hid _ ⟨y⟩) l:=rfl
theorem h_lp1{n:Nat}{h:HL}{K:HL->Prop}:(hA A).lp1 n h K=A.lp1 n h (@hid _ ⟨K⟩):=rfl
theorem h_lp2{n:Nat}{o:Tk}{h:HL}{K:HL->Prop}:(hA A).lp2 n o h K=A.lp2 n o h (@hid _ ⟨K⟩):=rfl
end
def pxh(A:Alg Prop HL):=And.intro (@h_cond A) (And.intro (@h_ari A) (And.intro (@h_shf A) (And.intro (@h_cmp A) (And.intro (@h_eqs A) (And.intro (@h_conv A) (And.intro (@h_sel A) (And.intro (@h_opt A) (And.intro (@h_chk A) (And.intro (@h_unI A) (And.intro (@h_unB A) (And.intro (@h_unV A) (And.intro (@h_un0 A) (And.intro (@h_ucI A) (And.intro (@h_ucB A) (And.intro (@h_ucV A) (And.intro (@h_uc0 A) (And.intro (@h_peek A) (And.intro (@h_heap A) (And.intro (@h_new A) (And.intro (@h_call A) (And.intro (@h_callv A) (And.intro (@h_join A) (And.intro (@h_loop A) (And.intro (@h_rfun A) (And.intro (@h_pend A) (And.intro (@h_lp1 A) ((@h_lp2 A))))))))))))))))))))))))))))
end Sx
end Go.Am
namespace Go.Am
open Sx Go.Proofs
def gl_cell(g:Nat)(vs:Tl)(h:cc.G g=some vs):vs.all be=true:=by
 unfold cc at h
 simp only at h
 split at h<;>first|(cases h;done)|(obtain rfl:=qap h;kernel_rfl)
abbrev P1:Alg Prop HL:=PH cc ac aa
abbrev Cc(g:TQ)(ls rs:TE):Prop:=∀H,aw cc ac g ls H rs H
def fn_ok{f:TQ}{fn:Fn1}(hi:FnIs (xc f) ac f fn){ls:TE}{H:HL}{K:Td}(hls:gR ls=true)
  (h:al P1 (xc f) ac drN fn ls H K):∃rs H',aw cc ac f ls (absH aa H) rs (absH aa H')/\K rs H':=by
 obtain⟨rs,h',a1,_,a3⟩:=rI (X:=xc f) (holds:=id) (abs:=absH aa) (PH_ok cc ac aa) tI hi (dY hls) h
 exact⟨rs,h',a1,a3⟩
def fn_okG{f:TQ}{fn:Fn1}(hi:FnIs (xc f) ac f fn){ls:TE}{H:HL}{K:Td}(hls:dV ls)
  (h:al P1 (xc f) ac drN fn ls H K):∃rs H',aw cc ac f ls (absH aa H) rs (absH aa H')/\K rs H':=by
 obtain⟨rs,h',a1,_,a3⟩:=rI (X:=xc f) (holds:=id) (abs:=absH aa) (PH_ok cc ac aa) tI hi hls h
 exact⟨rs,h',a1,a3⟩
def gls0:dV []:=λ_ h=>by cases h
def glsI{n:Int}{ls:TE}(h:dV ls):dV (.i n :: ls):=λl hl=>by
 rcases qak.1 hl with rfl|hl
 ·trivial
 ·exact h l hl
def glsV{x:Value}{ls:TE}(hx:aT x=true)(h:dV ls):dV (.v x :: ls):=λl hl=>by
 rcases qak.1 hl with rfl|hl
 ·exact hx
 ·exact h l hl
abbrev FP:=List Lf->HL->(TE->HL->Prop)->Prop
abbrev UG(k:TQ)(p:FP):Prop:=∀ {ls:TE} {H:HL} {K:Td},gR ls=true->p ls H K->∃rs H',aw cc ac k ls (absH aa H) rs (absH aa H')/\K rs H'
abbrev XG(k:TQ)(p:FP):Prop:=∀ {ls:TE} {H:HL} {K:Td},dV ls->p ls H K->∃rs H',aw cc ac k ls (absH aa H) rs (absH aa H')/\K rs H'
abbrev QG(k:TQ)(p:FP):Prop:=∀ {ls rs:TE},gR ls=true->p ls [] (λrs' _=>rs'=rs)->Cc k ls rs
abbrev YG(k:Nat)(p:Tl->Nat->FP):Prop:=∀ {vs:Tl} {lp:Nat} {ls:TE} {H:HL} {K:Td} {st:LoopState} {pd:Tk} {ys:List S0},H[lp]?=some (.lp k st pd vs)->Told ((aa k).params.map (·.2)) ls ys->p vs lp ls H K->∃b H',fZ cc lp (ah ys) (absH aa H) (.bool b) (absH aa H')/\K [.b b] H'
def uu{k:TQ}{fn:Fn1}{f:{R HT:Type}->Alg R HT->TE->HT->(TE->HT->R)->R}(hi:FnIs (xc k) ac k fn)(e:@f=λR HT A ls h K=>al A (xc k) ac drN fn ls h K):UG k (f (hA P1)):=by
 intro ls H K hls h
 rw[hA_eq,e]at h
 exact fn_ok hi hls h
def xx{k:TQ}{fn:Fn1}{f:{R HT:Type}->Alg R HT->TE->HT->(TE->HT->R)->R}(hi:FnIs (xc k) ac k fn)(e:@f=λR HT A ls h K=>al A (xc k) ac drN fn ls h K):XG k (f (hA P1)):=by
 intro ls H K hls h
 rw[hA_eq,e]at h
 exact fn_okG hi hls h
def qq{k:TQ}{sg:Sig}{p:FP}(hu:UG k p)(hs:ac k=some sg:=by rfl)(hf:sg.plain=true:=by kernel_rfl):QG k p:=λhls h=>by
 obtain⟨_,_,h1,rfl⟩:=hu hls h
 exact ct_of mixed jz hs hf h1
def yy{k:Nat}{f:{R HT:Type}->Alg R HT->Tl->Nat->TE->HT->(TE->HT->R)->R}(e:@f=λR HT A vs lp ls h K=>rJ A (xc 0) ac drN (aa k) vs lp ls h K):YG k (f (hA P1)):=by
 intro vs lp ls H K st pd ys hl hy h
 rw[hA_eq,e]at h
 exact wX (X:=xc 0) (PH_ok cc ac aa) tI (xi hl) rfl rfl rfl rfl hy h
def qxs:=pxs cc ac aa
def qxh:=And.intro (qeq (hA P1)) (pxh P1)
def qxc:=pxc cc ac aa
def qxa:=pxa cc ac aa
def qXX:=And.intro qxs (And.intro qxc qxa)
def p_x{P Q:Prop}(k:Q)(h:P=Q:=by simp(disch:=omega)only[↓qXX];exact rfl):P:=Eq.mpr h k
def xK{k:TQ}{p:FP}(hx:XG k p){ls R:TE}{H H':HL}(hg:dV ls)(h:p ls H λrs h'=>rs=R/\h'=H'):aw cc ac k ls (absH aa H) R (absH aa H'):=by
 obtain⟨rs,h',h1,rfl,rfl⟩:=hx hg h
 exact h1
def u3:UG 3 (f3 (hA P1)):=uu i3 e3
def x3:XG 3 (f3 (hA P1)):=xx i3 e3
def u4:UG 4 (f4 (hA P1)):=uu i4 e4
def x4:XG 4 (f4 (hA P1)):=xx i4 e4
def u5:UG 5 (f5 (hA P1)):=uu i5 e5
def q5:QG 5 (f5 (hA P1)):=qq u5
def u6:UG 6 (f6 (hA P1)):=uu i6 e6
def x6:XG 6 (f6 (hA P1)):=xx i6 e6
def x7:XG 7 (f7 (hA P1)):=xx i7 e7
def u8:UG 8 (f8 (hA P1)):=uu i8 e8
def x8:XG 8 (f8 (hA P1)):=xx i8 e8
def x9:XG 9 (f9 (hA P1)):=xx i9 e9
def x11:XG 11 (f11 (hA P1)):=xx i11 e11
def q13:QG 13 (f13 (hA P1)):=qq (uu i13 e13)
def u16:UG 16 (f16 (hA P1)):=uu i16 e16
def x16:XG 16 (f16 (hA P1)):=xx i16 e16
def q17:QG 17 (f17 (hA P1)):=qq (uu i17 e17)
def x18:XG 18 (f18 (hA P1)):=xx i18 e18
def x19:XG 19 (f19 (hA P1)):=xx i19 e19
def x21:XG 21 (f21 (hA P1)):=xx i21 e21
def x22:XG 22 (f22 (hA P1)):=xx i22 e22
def x23:XG 23 (f23 (hA P1)):=xx i23 e23
def x24:XG 24 (f24 (hA P1)):=xx i24 e24
def q25:QG 25 (f25 (hA P1)):=qq (uu i25 e25)
def x26:XG 26 (f26 (hA P1)):=xx i26 e26
def x27:XG 27 (f27 (hA P1)):=xx i27 e27
def x28:XG 28 (f28 (hA P1)):=xx i28 e28
def x29:XG 29 (f29 (hA P1)):=xx i29 e29
def x30:XG 30 (f30 (hA P1)):=xx i30 e30
def x31:XG 31 (f31 (hA P1)):=xx i31 e31
def u32:UG 32 (f32 (hA P1)):=uu i32 e32
def x32:XG 32 (f32 (hA P1)):=xx i32 e32
def q34:QG 34 (f34 (hA P1)):=qq (uu i34 e34)
def q35:QG 35 (f35 (hA P1)):=qq (uu i35 e35)
def q36:QG 36 (f36 (hA P1)):=qq (uu i36 e36)
def q37:QG 37 (f37 (hA P1)):=qq (uu i37 e37)
def q40:QG 40 (f40 (hA P1)):=qq (uu i40 e40)
def q42:QG 42 (f42 (hA P1)):=qq (uu i42 e42)
def q43:QG 43 (f43 (hA P1)):=qq (uu i43 e43)
def q44:QG 44 (f44 (hA P1)):=qq (uu i44 e44)
def q45:QG 45 (f45 (hA P1)):=qq (uu i45 e45)
def q46:QG 46 (f46 (hA P1)):=qq (uu i46 e46)
def x47:XG 47 (f47 (hA P1)):=xx i47 e47
def q48:QG 48 (f48 (hA P1)):=qq (uu i48 e48)
def q49:QG 49 (f49 (hA P1)):=qq (uu i49 e49)
def q50:QG 50 (f50 (hA P1)):=qq (uu i50 e50)
def q51:QG 51 (f51 (hA P1)):=qq (uu i51 e51)
def q52:QG 52 (f52 (hA P1)):=qq (uu i52 e52)
def x54:XG 54 (f54 (hA P1)):=xx i54 e54
def x55:XG 55 (f55 (hA P1)):=xx i55 e55
def q57:QG 57 (f57 (hA P1)):=qq (uu i57 e57)
def x58:XG 58 (f58 (hA P1)):=xx i58 e58
def q59:QG 59 (f59 (hA P1)):=qq (uu i59 e59)
def q60:QG 60 (f60 (hA P1)):=qq (uu i60 e60)
def q61:QG 61 (f61 (hA P1)):=qq (uu i61 e61)
def q62:QG 62 (f62 (hA P1)):=qq (uu i62 e62)
def x63:XG 63 (f63 (hA P1)):=xx i63 e63
def q64:QG 64 (f64 (hA P1)):=qq (uu i64 e64)
def x65:XG 65 (f65 (hA P1)):=xx i65 e65
def x66:XG 66 (f66 (hA P1)):=xx i66 e66
def x67:XG 67 (f67 (hA P1)):=xx i67 e67
def q68:QG 68 (f68 (hA P1)):=qq (uu i68 e68)
def q69:QG 69 (f69 (hA P1)):=qq (uu i69 e69)
def q71:QG 71 (f71 (hA P1)):=qq (uu i71 e71)
def q72:QG 72 (f72 (hA P1)):=qq (uu i72 e72)
def x73:XG 73 (f73 (hA P1)):=xx i73 e73
def q74:QG 74 (f74 (hA P1)):=qq (uu i74 e74)
def q76:QG 76 (f76 (hA P1)):=qq (uu i76 e76)
def u77:UG 77 (f77 (hA P1)):=uu i77 e77
def x78:XG 78 (f78 (hA P1)):=xx i78 e78
def x79:XG 79 (f79 (hA P1)):=xx i79 e79
def q80:QG 80 (f80 (hA P1)):=qq (uu i80 e80)
def x81:XG 81 (f81 (hA P1)):=xx i81 e81
def q82:QG 82 (f82 (hA P1)):=qq (uu i82 e82)
def q83:QG 83 (f83 (hA P1)):=qq (uu i83 e83)
def q85:QG 85 (f85 (hA P1)):=qq (uu i85 e85)
def q86:QG 86 (f86 (hA P1)):=qq (uu i86 e86)
def x87:XG 87 (f87 (hA P1)):=xx i87 e87
def x89:XG 89 (f89 (hA P1)):=xx i89 e89
def q91:QG 91 (f91 (hA P1)):=qq (uu i91 e91)
def q93:QG 93 (f93 (hA P1)):=qq (uu i93 e93)
def q94:QG 94 (f94 (hA P1)):=qq (uu i94 e94)
def q97:QG 97 (f97 (hA P1)):=qq (uu i97 e97)
def q98:QG 98 (f98 (hA P1)):=qq (uu i98 e98)
def q99:QG 99 (f99 (hA P1)):=qq (uu i99 e99)
def x100:XG 100 (f100 (hA P1)):=xx i100 e100
def x101:XG 101 (f101 (hA P1)):=xx i101 e101
def q103:QG 103 (f103 (hA P1)):=qq (uu i103 e103)
def x104:XG 104 (f104 (hA P1)):=xx i104 e104
def x105:XG 105 (f105 (hA P1)):=xx i105 e105
def x106:XG 106 (f106 (hA P1)):=xx i106 e106
def q107:QG 107 (f107 (hA P1)):=qq (uu i107 e107)
def q114:QG 114 (f114 (hA P1)):=qq (uu i114 e114)
def x116:XG 116 (f116 (hA P1)):=xx i116 e116
def x120:XG 120 (f120 (hA P1)):=xx i120 e120
def x121:XG 121 (f121 (hA P1)):=xx i121 e121
def q125:QG 125 (f125 (hA P1)):=qq (uu i125 e125)
def q126:QG 126 (f126 (hA P1)):=qq (uu i126 e126)
def x127:XG 127 (f127 (hA P1)):=xx i127 e127
def q128:QG 128 (f128 (hA P1)):=qq (uu i128 e128)
def x130:XG 130 (f130 (hA P1)):=xx i130 e130
def q136:QG 136 (f136 (hA P1)):=qq (uu i136 e136)
def x141:XG 141 (f141 (hA P1)):=xx i141 e141
def x142:XG 142 (f142 (hA P1)):=xx i142 e142
def x152:XG 152 (f152 (hA P1)):=xx i152 e152
def q171:QG 171 (f171 (hA P1)):=qq (uu i171 e171)
def x172:XG 172 (f172 (hA P1)):=xx i172 e172
def q173:QG 173 (f173 (hA P1)):=qq (uu i173 e173)
def xy864:YG 864 (y864 (hA P1)):=yy ey864
end Go.Am
namespace Go.Am
namespace Sx
def cut_some{vs:Tl}{off n:Nat}{cs:Tl}:cut vs off n=some cs↔off+n<=vs.length/\(vs.drop off).take n=cs:=by
 unfold cut
 split
 next h=>simp[h]
 next h=>simp[h]
def cut_len{vs:Tl}{off n:Nat}{cs:Tl}(h:cut vs off n=some cs):cs.length=n:=by
 obtain⟨h1,rfl⟩:=cut_some.1 h
 rw[qaL,qbI];omega
def vA{vs:Tl}{off n:Nat}{cs:Tl}(h:cut vs off n=some cs){o k:Nat}(hk:o+k<=n):cut vs (off+o) k=some ((cs.drop o).take k):=by
 obtain⟨h1,rfl⟩:=cut_some.1 h
 refine cut_some.2 ⟨by omega,?_⟩
 rw[List.drop_take,qb4,List.take_take,qbW (by omega)]
def cut_all{vs:Tl}{n:Nat}(h:vs.length=n):cut vs 0 n=some vs:=cut_some.2 ⟨by omega,by rw[qbj,qaM (by omega)]⟩
def Pre(h0 h:HL):Prop:=∃G,h=h0++G
def Pre.refl(h:HL):Pre h h:=⟨[],by simp⟩
def Pre.trans{a b c:HL}(h:Pre a b)(k:Pre b c):Pre a c:=by
 obtain⟨G,rfl⟩:=h
 obtain⟨G',rfl⟩:=k
 exact⟨G++G',by simp⟩
def Pre.app{a b:HL}(h:Pre a b)(G:HL):Pre a (b++G):=h.trans ⟨G,rfl⟩
def Pre.len{a b:HL}(h:Pre a b):a.length<=b.length:=by obtain⟨G,rfl⟩:=h;simp
def Pre.get{a b:HL}(h:Pre a b){i:Nat}{o:HO}(hi:a[i]?=some o):b[i]?=some o:=by
 obtain⟨G,rfl⟩:=h
 have:i<a.length:=by
  rcases qaB i a.length with h|h
  ·exact h
  ·rw[qah h]at hi;cases hi
 rw[qag this];exact hi
def Pre.set{a b:HL}(h:Pre a b){i:Nat}(hi:a.length<=i)(o:HO):Pre a (b.set i o):=by
 obtain⟨G,rfl⟩:=h
 rw[qbA _ _ hi]
 exact⟨_,rfl⟩
def Ptr(h:HL)(p:Value)(cs:Tl):Prop:=∃id o vs e rw,p = .pointer (some ⟨id,o,none⟩)/\h[id]?=some (.o (.cells vs e rw))/\cut vs o cs.length=some cs
def SlC(h:HL)(v:Value)(e n:Nat)(cs:Tl):Prop:=
 cs.length=n*e/\((v = .slice none 0 0/\n=0)∨∃id off cx vs rw,v = .slice (some ⟨id,off,tag e⟩) n cx/\h[id]?=some (.o (.cells vs e rw))/\cut vs off (n*e)=some cs)
def LsH{α:Type}(h:HL)(v:Value)(e:Nat)(enc:α->Tl)(l:List α):Prop:=(∀a∈l,(enc a).length=e)/\SlC h v e l.length (l.flatMap enc)
def Mk(n0:Nat)(h:HL)(v:Value)(e n:Nat)(cs:Tl):Prop:=
 cs.length=n*e/\((v = .slice none 0 0/\n=0)∨∃id,n0<=id/\v = .slice (some ⟨id,0,tag e⟩) n 0/\h[id]?=some (.o (.cells cs e true)))
def MkL{α:Type}(n0:Nat)(h:HL)(v:Value)(e:Nat)(enc:α->Tl)(l:List α):Prop:=(∀a∈l,(enc a).length=e)/\Mk n0 h v e l.length (l.flatMap enc)
def blk:Value->Option Nat
 | .slice (some a) _ _=>some a.block
 |_=>none
def Ptr.keep{h h':HL}{p:Value}{cs:Tl}(hp:Ptr h p cs)(hk:∀(j:Nat) o,h[j]?=some o->h'[j]?=some o):Ptr h' p cs:=by
 obtain⟨id,o,vs,e,rw',h1,h2,h3⟩:=hp
 exact⟨id,o,vs,e,rw',h1,hk _ _ h2,h3⟩
def SlC.keep{h h':HL}{v:Value}{e n:Nat}{cs:Tl}(hs:SlC h v e n cs)(hk:∀(j:Nat) o,h[j]?=some o->blk v=some j->h'[j]?=some o):SlC h' v e n cs:=by
 obtain⟨h0,h1|⟨id,off,cx,vs,rw',rfl,h2,h3⟩⟩:=hs
 ·exact⟨h0,.inl h1⟩
 ·exact⟨h0,.inr ⟨id,off,cx,vs,rw',rfl,hk _ _ h2 rfl,h3⟩⟩
def SlC.pre{h h':HL}{v:Value}{e n:Nat}{cs:Tl}(hs:SlC h v e n cs)(hp:Pre h h'):SlC h' v e n cs:=hs.keep λ_ _ h _=>hp.get h
def LsH.keep{α:Type}{h h':HL}{v:Value}{e:Nat}{enc:α->Tl}{l:List α}(hs:LsH h v e enc l)(hk:∀(j:Nat) o,h[j]?=some o->blk v=some j->h'[j]?=some o):LsH h' v e enc l:=⟨hs.1,hs.2.keep hk⟩
def LsH.pre{α:Type}{h h':HL}{v:Value}{e:Nat}{enc:α->Tl}{l:List α}(hs:LsH h v e enc l)(hp:Pre h h'):LsH h' v e enc l:=⟨hs.1,hs.2.pre hp⟩
def SlC.len{h:HL}{v:Value}{e n:Nat}{cs:Tl}(hs:SlC h v e n cs):lenS v=some (.ofNat n):=by
 obtain⟨_,⟨rfl,rfl⟩|⟨id,off,cx,vs,rw',rfl,_⟩⟩:=hs<;>rfl
def LsH.len{α:Type}{h:HL}{v:Value}{e:Nat}{enc:α->Tl}{l:List α}(hs:LsH h v e enc l):lenS v=some (.ofNat l.length):=hs.2.len
def Mk.sl{n0:Nat}{h:HL}{v:Value}{e n:Nat}{cs:Tl}(hs:Mk n0 h v e n cs):SlC h v e n cs:=by
 obtain⟨h0,h1|⟨id,_,rfl,h2⟩⟩:=hs
 ·exact⟨h0,.inl h1⟩
 ·exact⟨h0,.inr ⟨id,0,0,cs,true,rfl,h2,cut_all h0⟩⟩
def MkL.ls{α:Type}{n0:Nat}{h:HL}{v:Value}{e:Nat}{enc:α->Tl}{l:List α}(hs:MkL n0 h v e enc l):LsH h v e enc l:=⟨hs.1,hs.2.sl⟩
def Mk.nil(n0:Nat)(h:HL)(e:Nat):Mk n0 h (.slice none 0 0) e 0 []:=⟨by simp,.inl ⟨rfl,rfl⟩⟩
def MkL.nil{α:Type}(n0:Nat)(h:HL)(e:Nat)(enc:α->Tl):MkL n0 h (.slice none 0 0) e enc []:=⟨by simp,Mk.nil n0 h e⟩
def LsH.nil{α:Type}(h:HL)(e:Nat)(enc:α->Tl):LsH h (.slice none 0 0) e enc []:=(MkL.nil 0 h e enc).ls
def Mk.keep{n0:Nat}{h h':HL}{v:Value}{e n:Nat}{cs:Tl}(hs:Mk n0 h v e n cs)(hk:∀(j:Nat) o,h[j]?=some o->blk v=some j->h'[j]?=some o):Mk n0 h' v e n cs:=by
 obtain⟨h0,h1|⟨id,h1,rfl,h2⟩⟩:=hs
 ·exact⟨h0,.inl h1⟩
 ·exact⟨h0,.inr ⟨id,h1,rfl,hk _ _ h2 rfl⟩⟩
def Mk.pre{n0:Nat}{h h':HL}{v:Value}{e n:Nat}{cs:Tl}(hs:Mk n0 h v e n cs)(hp:Pre h h'):Mk n0 h' v e n cs:=hs.keep λ_ _ h _=>hp.get h
def MkL.keep{α:Type}{n0:Nat}{h h':HL}{v:Value}{e:Nat}{enc:α->Tl}{l:List α}(hs:MkL n0 h v e enc l)(hk:∀(j:Nat) o,h[j]?=some o->blk v=some j->h'[j]?=some o):MkL n0 h' v e enc l:=⟨hs.1,hs.2.keep hk⟩
def MkL.pre{α:Type}{n0:Nat}{h h':HL}{v:Value}{e:Nat}{enc:α->Tl}{l:List α}(hs:MkL n0 h v e enc l)(hp:Pre h h'):MkL n0 h' v e enc l:=⟨hs.1,hs.2.pre hp⟩
def aO{α:Type}{e:Nat}{enc:α->Tl}:∀ {l:List α},(∀a∈l,(enc a).length=e)->(l.flatMap enc).length=l.length*e
 | [],_=>by simp
 |a :: l,h=>by
  rw[qby,qaC,h a qay,aO λb hb=>h b (qas _ hb),qaE,qbz,qch,Nat.add_comm]
def kZ{α:Type}{e:Nat}{enc:α->Tl}:∀ {l:List α},(∀a∈l,(enc a).length=e)->∀ {i:Nat} {a:α},l[i]?=some a->((l.flatMap enc).drop (i*e)).take e=enc a
 |b :: l,h,0,a,hi=>by
  simp only[qbo,qaz]at hi
  subst hi
  have:=h b qay
  rw[qb0,qbj,qby,List.take_append_of_le_length (by omega),qaM (by omega)]
 |b :: l,h,i+1,a,hi=>by
  simp only[qbV]at hi
  have hb:=h b qay
  have:=kZ (λb hb=>h b (qas _ hb)) hi
  rw[qby,qbz,qch,←this]
  have e1:i*e+e=(enc b).length+i*e:=by omega
  rw[e1,qct,qbs (by omega),qaG,qca]
 | [],_,_,_,hi=>by simp at hi
def SlC.at{h:HL}{v:Value}{e n:Nat}{cs:Tl}(hs:SlC h v e n cs){i:Nat}(hi:i<n):∃p,idS e v (.ofNat i)=some p/\Ptr h p ((cs.drop (i*e)).take e):=by
 obtain⟨h0,⟨rfl,rfl⟩|⟨id,off,cx,vs,rw',rfl,h2,h3⟩⟩:=hs
 ·omega
 ·have hle:i*e+e<=n*e:=by
   have:=qbm e (show i+1<=n by omega)
   rw[qbz,qch]at this;exact this
  refine⟨.pointer (some ⟨id,off+i*e,none⟩),?_,id,off+i*e,vs,e,rw',rfl,h2,?_⟩
  ·rw[xk]
   have hh:0<=Int.ofNat i/\Int.ofNat i<(n:Int):=⟨qaY i,by show(i:Int)<n;omega⟩
   simp only[qd7 hh]
   have:¬(tag e=some 1):=by simp[tag]
   simp only[qd8 this]
   rfl
  ·have hc:=vA h3 hle
   have hl:=cut_len hc
   rw[hl];exact hc
def LsH.at{α:Type}{h:HL}{v:Value}{e:Nat}{enc:α->Tl}{l:List α}(hs:LsH h v e enc l){i:Nat}{a:α}(hi:l[i]?=some a):∃p,idS e v (.ofNat i)=some p/\Ptr h p (enc a):=by
 have hlt:i<l.length:=by
  rcases qaB i l.length with h|h
  ·exact h
  ·rw[qah h]at hi;cases hi
 obtain⟨p,h1,h2⟩:=hs.2.at hlt
 rw[kZ hs.1 hi]at h2
 exact⟨p,h1,h2⟩
def Ptr.fd{h:HL}{p:Value}{cs:Tl}(hp:Ptr h p cs)(o k:Nat)(hk:o+k<=cs.length):∃p',fdP o p=some p'/\Ptr h p' ((cs.drop o).take k):=by
 obtain⟨id,o',vs,e,rw',rfl,h2,h3⟩:=hp
 refine⟨_,rfl,id,o'+o,vs,e,rw',rfl,h2,?_⟩
 have hc:=vA h3 hk
 rw[cut_len hc];exact hc
section
variable [Val] [Kno]
def cp{T:Tt}{h:HL}{i:Nat}{o:HObj}(hi:h[i]?=some (.o o)):getH T h i=some o:=by
 unfold getH;rw[hi];rfl
def Ptr.ld{T:Tt}{h:HL}{p:Value}{cs:Tl}(hp:Ptr h p cs){n:Nat}(hn:cs.length=n):(Pk.ld n p).run (getH T h)=some cs:=by
 obtain⟨id,o,vs,e,rw',rfl,h2,h3⟩:=hp
 subst hn
 show(match (none:Tp)with|none=>(ij (getH T h) id).bind λvs=>cut vs o cs.length|some _=>none)=_
 unfold ij
 rw[cp h2]
 exact h3
def Ptr.lg{C:Cfg}{T:Tt}{h:HL}{p:Value}{cs:Tl}(hp:Ptr h p cs){n:Nat}(hn:cs.length=n):(Pk.lg C n p).run (getH T h)=some cs:=by
 obtain⟨id,o,vs,e,rw',rfl,h2,h3⟩:=hp
 subst hn
 show(ij (getH T h) id).bind (λvs=>cut vs o cs.length)=_
 unfold ij
 rw[cp h2]
 exact h3
def yf{C:Cfg}{T:Tt}{h:HL}{v:Value}{e n:Nat}{cs:Tl}(hs:SlC h v e n cs):slG C e (getH T h) v=some (cs,n):=by
 obtain⟨h0,⟨rfl,rfl⟩|⟨id,off,cx,vs,rw',rfl,h2,h3⟩⟩:=hs
 ·simp only[qb0,qbi]at h0
  subst h0;rfl
 ·unfold slG
  have:¬(tag e=some 1):=by simp[tag]
  simp only[qd8 this,if_true]
  rw[cp h2]
  simp only[if_true]
  rw[h3];rfl
variable {C:Cfg} {Sg:Tc} {T:Tt}
def ap_mk{n0:Nat}{h0 h:HL}{v x:Value}{e n k bytes:Nat}{cs new:Tl}(hp:Pre h0 h)(h0n:h0.length=n0)(hm:Mk n0 h v e n cs)(hx:SlC h x e k new)(hs:ca (n+k) bytes=true) :
  ∃acts v',(Hp.ap C e bytes v x).run (getH T h) h.length=some (acts,[v'])/\Pre h0 (bS h acts)/\Mk n0 (bS h acts) v' e (n+k) (cs++new)/\
   (∀(j:Nat) o,h[j]?=some o->blk v≠some j->(bS h acts)[j]?=some o)/\(blk v'=blk v∨blk v'=none∨∃j,blk v'=some j/\h.length<=j):=by
 obtain⟨c0,hm⟩:=hm
 have c1:=hx.1
 have c3:(cs++new).length=(n+k)*e:=by rw[qaC,c0,c1,qbz]
 have hslg:=yf (C:=C) (T:=T) hx
 rcases hm with⟨rfl,rfl⟩|⟨id,hid,rfl,hg⟩
 ·simp only[qb0,qbi]at c0
  subst c0
  by_cases hk:k=0
  ·subst hk
   simp only[qb0,qbi]at c1
   subst c1
   refine⟨[],.slice none 0 0,?_,hp,Mk.nil _ _ _,λj o hj _=>hj,.inl rfl⟩
   show apG C e bytes (.slice none 0 0) x (getH T h) h.length=_
   unfold apG
   rw[hslg]
   rfl
  ·refine⟨[.push (.cells new e true)],.slice (some ⟨h.length,0,tag e⟩) k 0,?_,hp.app _,?_,λj o hj _=>?_,.inr (.inr ⟨h.length,rfl,qao _⟩)⟩
   ·show apG C e bytes (.slice none 0 0) x (getH T h) h.length=_
    unfold apG
    rw[hslg]
    simp only[qd8 hk]
    rw[qaN]at hs
    rw[qd7 hs]
   ·rw[qaN,qaG]
    refine⟨by simpa using c1,.inr ⟨h.length,by have:=hp.len;omega,rfl,?_⟩⟩
    simp[bS,Act1.onH]
   ·exact Pre.get ⟨_,rfl⟩ hj
 ·by_cases hk:k=0
  ·subst hk
   simp only[qb0,qbi]at c1
   subst c1
   refine⟨[],.slice (some ⟨id,0,tag e⟩) n 0,?_,hp,⟨c3,.inr ⟨id,hid,rfl,by simpa[bS]using hg⟩⟩,λj o hj _=>hj,.inl rfl⟩
   show apG C e bytes (.slice (some ⟨id,0,tag e⟩) n 0) x (getH T h) h.length=_
   unfold apG
   rw[hslg]
   simp only[ne_eq,not_true_eq_false,if_false]
   rw[cp hg]
   simp only[ne_eq,not_true_eq_false,if_false]
   rw[cut_all c0]
   rfl
  ·have hlt:id<h.length:=by
    rcases qaB id h.length with h1|h1
    ·exact h1
    ·rw[qah h1]at hg;cases hg
   refine⟨[.set id .dead,.push (.cells (cs++new) e true)],.slice (some ⟨h.length,0,tag e⟩) (n+k) 0,?_,?_,?_,λj o hj hb=>?_,.inr (.inr ⟨h.length,rfl,qao _⟩)⟩
   ·show apG C e bytes (.slice (some ⟨id,0,tag e⟩) n 0) x (getH T h) h.length=_
    unfold apG
    rw[hslg]
    simp only[ne_eq,not_true_eq_false,if_false]
    rw[cp hg]
    simp only[ne_eq,not_true_eq_false,if_false]
    rw[cut_all c0]
    simp only[qd8 hk,qdB]
    rw[qd7 hs]
   ·exact(hp.set (by omega) _).app _
   ·refine⟨c3,.inr ⟨h.length,by have:=hp.len;omega,rfl,?_⟩⟩
    simp[bS,Act1.onH]
   ·have hne:id≠j:=λhh=>hb (by subst hh;rfl)
    refine Pre.get (a:=h.set id (.o .dead)) ⟨_,rfl⟩ ?_
    rw[qai hne];exact hj
def wG{n0:Nat}{h:HL}{v:Value}{e n:Nat}{cs:Tl}(hm:Mk n0 h v e n cs){j:Nat}(hb:blk v=some j):n0<=j/\j<h.length:=by
 obtain⟨_,⟨rfl,_⟩|⟨id,h1,rfl,hg⟩⟩:=hm
 ·cases hb
 ·cases hb
  refine⟨h1,?_⟩
  rcases qaB id h.length with h2|h2
  ·exact h2
  ·rw[qah h2]at hg;cases hg
def ky{α:Type}{h0 h:HL}{v:Value}{e bytes:Nat}{enc:α->Tl}{l:List α}{a:α}{K:Ta}{new:Tl}{m:Nat}{sp:Tp}(hp:Pre h0 h)(hm:MkL h0.length h v e enc l)(hn:new=enc a)(hl:(enc a).length=e)(hmm:m=h.length)(hsp:sp=some (e+10))
  (hs:ca (l.length+1) bytes=true)
  (hk:∀v' h',Pre h0 h'->MkL h0.length h' v' e enc (l++[a])->aT v'=true->(∀(j:Nat) o,h[j]?=some o->blk v≠some j->h'[j]?=some o)->(blk v'=blk v∨∃j,blk v'=some j/\h.length<=j)->K [v'] h') :
  (PH C Sg T).heap (.ap C e bytes v (.slice (some ⟨m,0,sp⟩) 1 2)) (h++[.o (.cells new e true)]) (@hid _ ⟨K⟩):=by
 subst hn hmm hsp
 have hx:SlC (h++[HO.o (.cells (enc a) e true)]) (.slice (some ⟨h.length,0,tag e⟩) 1 2) e 1 (enc a):=by
  refine⟨by omega,.inr ⟨h.length,0,2,enc a,true,rfl,by simp,cut_all (by omega)⟩⟩
 have hm':Mk h0.length (h++[HO.o (.cells (enc a) e true)]) v e l.length (l.flatMap enc):=hm.2.pre ⟨_,rfl⟩
 obtain⟨acts,v',a1,a2,a3,a4,a5⟩:=ap_mk (C:=C) (T:=T) (hp.app [HO.o (.cells (enc a) e true)]) rfl hm' hx hs
 refine cU a1 (hk v' _ a2 ⟨?_,?_⟩ ?_ ?_ ?_)
 ·intro b hb
  rcases qaJ.1 hb with hb|hb
  ·exact hm.1 b hb
  ·simp only[qaw]at hb;subst hb;exact hl
 ·rw[qcq,qaC]
  simpa using a3
 ·obtain⟨_,⟨rfl,_⟩|⟨id,_,rfl,_⟩⟩:=a3
  ·rfl
  ·simp[aT,noLoc,bn,bP,bw,aY,aJ,tag]
 ·intro j o hj hb
  exact a4 j o (Pre.get ⟨_,rfl⟩ hj) hb
 ·rcases a5 with h1|h1|⟨j,h1,h2⟩
  ·exact .inl h1
  ·obtain⟨q1,⟨_,q2⟩|⟨id,_,rfl,_⟩⟩:=a3
   ·omega
   ·cases h1
  ·exact .inr ⟨j,h1,by simp at h2;omega⟩
end
end Sx
namespace Sx
def Ptr.good{h:HL}{p:Value}{cs:Tl}(hp:Ptr h p cs):aT p=true:=by
 obtain⟨id,o,vs,e,rw',rfl,_⟩:=hp
 simp[aT,noLoc,bn,bP,bw,aY,aJ]
def SlC.good{h:HL}{v:Value}{e n:Nat}{cs:Tl}(hs:SlC h v e n cs):aT v=true:=by
 obtain⟨_,⟨rfl,_⟩|⟨id,off,cx,vs,rw',rfl,_⟩⟩:=hs
 ·rfl
 ·simp[aT,noLoc,bn,bP,bw,aY,aJ,tag]
def LsH.good{α:Type}{h:HL}{v:Value}{e:Nat}{enc:α->Tl}{l:List α}(hs:LsH h v e enc l):aT v=true:=hs.2.good
section
variable [Val] [Kno] {C:Cfg} {Sg:Tc} {T:Tt}
def hidL{F:(TE->HL->Prop)->TE->HL->Prop}{s:Td}{l:TE}{h:HL}(hf:F s l h):@hid _ ⟨F⟩ s l h:=hf
def bz{σ:Type}{F:(TE->HL->Prop)->TE->HL->Prop}(n:Nat)(S:Nat->σ->TE)(HP:Nat->σ->HL)(Inv:Nat->σ->Prop){j0:Nat}{s0:σ}{ls:TE}{h:HL}(hls:ls=S j0 s0)(hh:h=HP j0 s0)(hj:j0<=n)(hi:Inv j0 s0)
  (step:∀j s,j<=n->Inv j s->∀self:TE->HL->Prop,(∀s',j<n->Inv (j+1) s'->self (S (j+1) s') (HP (j+1) s'))->F self (S j s) (HP j s)):(PH C Sg T).loop (@hid _ ⟨F⟩) ls h:=by
 subst hls hh
 refine cY (m:=n - j0) (λm ls h=>∃j s,ls=S j s/\h=HP j s/\j<=n/\m=n - j/\Inv j s) ⟨j0,s0,rfl,rfl,hj,rfl,hi⟩ ?_
 rintro m ls h ⟨j,s,rfl,rfl,hj,rfl,hi⟩ self hself
 exact hidL (step j s hj hi self λs' hlt hi'=>hself (n - (j+1)) _ _ (by omega) ⟨j+1,s',rfl,rfl,by omega,rfl,hi'⟩)
def fm{F:(TE->HL->Prop)->TE->HL->Prop}(n:Nat)(Inv:Nat->Prop){j0:Nat}{h:HL}{ls:TE}(hls:ls=[.i (Int.ofNat j0)])(hj:j0<=n)(hi:Inv j0)
  (step:∀j,j<=n->Inv j->∀self:TE->HL->Prop,(j<n->Inv (j+1)->self [.i (Int.ofNat j+1)] h)->F self [.i (Int.ofNat j)] h):(PH C Sg T).loop (@hid _ ⟨F⟩) ls h:=
 bz (σ:=Unit) n (λj _=>[.i (Int.ofNat j)]) (λ_ _=>h) (λj _=>Inv j) (s0:=()) hls rfl hj hi λj _ hj hi self hs=>step j hj hi self (λa b=>hs () a b)
def bv{α:Type}{h:HL}{v:Value}{e:Nat}{enc:α->Tl}{l:List α}{K:Tu}(hs:LsH h v e enc l)(hk:K (Int.ofNat l.length)):(PH C Sg T).opt (lenS v) (@hid _ ⟨K⟩):=au hs.len hk
def aQ{α:Type}{h:HL}{v:Value}{e:Nat}{enc:α->Tl}{l:List α}{i:Nat}{a:α}{n:Int}{K:Te}(hs:LsH h v e enc l)(hn:n=Int.ofNat i)(hi:l[i]?=some a)(hk:K (enc a)) :
  (PH C Sg T).opt (idS e v n) (@hid _ ⟨λx=>(PH C Sg T).peek (.lg C e x) h (@hid _ ⟨K⟩)⟩):=by
 subst hn
 obtain⟨p,h1,h2⟩:=hs.at hi
 exact au h1 (eG (h2.lg (hs.1 a (qad hi))) hk)
def ew{α:Type}{h:HL}{v:Value}{e:Nat}{enc:α->Tl}{l:List α}{i:Nat}{a:α}{n:Int}{o k:Nat}{cs:Tl}{K:Te}(hs:LsH h v e enc l)(hn:n=Int.ofNat i)(hi:l[i]?=some a)(hcs:cs=((enc a).drop o).take k)(hok:o+k<=e)(hk:K cs) :
  (PH C Sg T).opt (idS e v n) (@hid _ ⟨λx=>(PH C Sg T).opt (fdP o x) (@hid _ ⟨λy=>(PH C Sg T).chk y (@hid _ ⟨(PH C Sg T).peek (.lg C k y) h (@hid _ ⟨K⟩)⟩)⟩)⟩):=by
 subst hn hcs
 obtain⟨p,h1,h2⟩:=hs.at hi
 have he:=hs.1 a (qad hi)
 have hok:o+k<=(enc a).length:=by omega
 have hlen:(((enc a).drop o).take k).length=k:=by rw[qaL,qbI];omega
 obtain⟨q,h3,h4⟩:=h2.fd o k hok
 refine au h1 (au h3 ?_)
 show aT q=true/\_
 exact⟨h4.good,eG (h4.lg hlen) hk⟩
end
end Sx
namespace Sx
section
variable [Val]
def yU:HObj->HObj
 | .cells vs e true=>if vs.all flat then .cells vs e true else .dead
 |_=>.dead
def vL{o:HObj}(h:(yU o).alive=true):∃vs e,o = .cells vs e true/\vs.all flat=true/\yU o = .cells vs e true:=by
 match o,h with
 | .cells vs e true,h=>
  unfold yU at h
  by_cases hf:vs.all flat=true
  ·exact⟨vs,e,rfl,hf,by show(if vs.all flat=true then HObj.cells vs e true else .dead)=_;rw[qd7 hf]⟩
  ·simp only[qd8 hf]at h;cases h
 | .cells _ _ false,h=>cases h
 | .map ..,h=>cases h
 | .loop ..,h=>cases h
 | .siter ..,h=>cases h
 | .dead,h=>cases h
def jm(n0 n:Nat)(σ:TB):Nat->Nat:=λj=>if j<n0 then σ j else n+(j - n0)
def vr_ren' [Glo]{n:Nat}{τ:TB}{mu' mu'':HMap}(hmu:∀j,j<n->mu'' (τ j)=mu' j){v c:Value}(hv:OkV n v)(h:VR noL mu' v c):VR noL mu'' (renV τ v) c:=by
 rcases hv with⟨h1,h2⟩|⟨j,off,len,cx,e,hj,rfl⟩
 ·rw[h2,cW h1 h]
  exact .of_flat h1
 ·show VR noL mu'' (.slice (some ⟨τ j,off,tag e⟩) len cx) c
  generalize ht:tag e=t at h ⊢
  cases h with
  |hslice q1 q2 q3 q4=>exact .hslice ((hmu j hj).trans q1) q2 q3 q4
  |hslice0 q1=>exact .hslice0 q1
  |gslice _=>simp[tag]at ht
  |gslice0=>simp[tag]at ht
  |scalar q=>simp[scalar]at q
def vr_sl' [Glo]{n:Nat}{τ:TB}{mu' mu'':HMap}(hmu:∀j,j<n->mu'' (τ j)=mu' j){l:SL}{c:Value}(hl:OkL n l.lf)(h:VR noL mu' l.val c):VR noL mu'' (mI τ l).val c:=by
 cases l with
 |v x=>exact vr_ren' hmu hl h
 |i k m=>
  have hf:flat (Value.int k m)=true:=rfl
  have h:VR noL mu' (.int k m) c:=h
  rw[cW hf h];exact .of_flat hf
 |b t=>
  have hf:flat (Value.bool t)=true:=rfl
  have h:VR noL mu' (.bool t) c:=h
  rw[cW hf h];exact .of_flat hf
 |l t=>
  have hf:flat (Value.bool t)=true:=rfl
  have h:VR noL mu' (.bool t) c:=h
  rw[cW hf h];exact .of_flat hf
def vr_s0' [Glo]{n:Nat}{τ:TB}{mu' mu'':HMap}(hmu:∀j,j<n->mu'' (τ j)=mu' j){x:S0}{c:Value}(hx:∀l∈x.cells,OkL n l.lf)(h:VR noL mu' x.val c):VR noL mu'' (renS τ x).val c:=by
 cases x with
 |leaf l=>exact vr_sl' hmu (hx l (by simp[S0.cells])) h
 |agg cs=>
  have h:VR noL mu' (.agg ⟨cs.map SL.val⟩) c:=h
  generalize ha:(⟨cs.map SL.val⟩ : Array Value)=a at h
  cases h with
  |scalar q=>simp[scalar]at q
  |agg hs h=>
   subst ha
   refine .agg (by simpa using hs) λi x y hx' hy=>?_
   have hi:((cs.map (mI τ)).map SL.val)[i]?=some x:=by simpa using hx'
   rw[qan,qan]at hi
   cases e:cs[i]? with
   |none=>rw[e]at hi;cases hi
   |some l=>
    rw[e]at hi
    cases hi
    exact vr_sl' hmu (hx l (qad e)) (h i _ y (by simp[e]) hy)
def vr_pack' [Glo]{n:Nat}{τ:TB}{mu' mu'':HMap}(hmu:∀j,j<n->mu'' (τ j)=mu' j){xs:List S0}{c:Value}(hx:∀x∈xs,∀l∈x.cells,OkL n l.lf)(h:VR noL mu' (eH (ah xs)) c):VR noL mu'' (eH (ah (xs.map (renS τ)))) c:=by
 match xs,hx,h with
 | [],_,h=>
  have h:VR noL mu' undef c:=h
  have hf:flat undef=true:=rfl
  rw[cW hf h]
  exact .of_flat hf
 | [x],hx,h=>exact vr_s0' hmu (hx x qay) h
 |x :: y :: l,hx,h=>
  have h:VR noL mu' (.tuple ⟨ah (x :: y :: l)⟩) c:=h
  show VR noL mu'' (.tuple ⟨ah ((x :: y :: l).map (renS τ))⟩) c
  generalize ha:(⟨ah (x :: y :: l)⟩ : Array Value)=a at h
  have hsz:a.size=l.length+2:=by subst ha;simp[ah]
  cases h with
  |scalar q=>simp[scalar]at q
  |poison _=>exact absurd hsz (by simp)
  |sym _=>exact absurd hsz (by simp)
  |tuple hn hs h=>
   subst ha
   refine .tuple (by simp[ah]) (by simpa[ah]using hs) λi x' y' hx' hy=>?_
   have hi:(ah ((x :: y :: l).map (renS τ)))[i]?=some x':=by simpa using hx'
   unfold ah at hi
   rw[qan,qan]at hi
   cases e:(x :: y :: l)[i]? with
   |none=>rw[e]at hi;cases hi
   |some s=>
    rw[e]at hi
    cases hi
    exact vr_s0' hmu (hx s (qad e)) (h i _ y' (by
     show(⟨(x :: y :: l).map S0.val⟩ : Array Value)[i]?=_
     rw[List.getElem?_toArray,qan,e];rfl) hy)
def objR_some [Glo]{mu:HMap}{p:Pl}{x:Option Obj}{o:HObj}(ha:o.alive=true)(h:objR mu p x o):∃y,x=some y:=by
 cases o with
 |cells vs e rw=>obtain⟨_,_,_,c,e,fr,h,_⟩:=h;exact⟨_,h⟩
 |map es c=>obtain⟨es',h,_⟩:=h;exact⟨_,h⟩
 |loop r=>obtain⟨L,h,_⟩:=h;exact⟨_,h⟩
 |siter s p=>exact⟨_,h⟩
 |dead=>cases ha
end
section
variable [Val]
def frame_alI(kp:Nat->HObj->HObj)(hkp:∀k o,(kp k o).alive=true->∃vs e,o = .cells vs e true/\vs.all flat=true/\kp k o = .cells vs e true){C:Cfg}(hG:∀g vs,C.G g=some vs->vs.all gfl=true){f:TQ}{args0 args:Tl}{r0 r:Value}{H0 H' H:Ts}(σ:TB)(h:dc C f args0 H0 r0 H')
  (h0:∀(j:Nat) (o:HObj),H0[j]?=some o->∃vs e rw,o = .cells vs e false/\vs.all flat=true/\H[σ j]?=some (.cells vs e rw))
  (ha:∀ [Glo] (mu mu0:HMap) (cs:Tl),(∀j,j<H0.length->mu0 j=mu (σ j))->VRs noL mu args cs->VRs noL mu0 args0 cs)
  (hr:∀ [Glo] (mu' mu'':HMap) (c:Value),(∀j,j<H'.length->mu'' (jm H0.length H.length σ j)=mu' j)->VR noL mu' r0 c->VR noL mu'' r c):dc C f args H r (H++(H'.drop H0.length).mapIdx kp):=by
 intro _ base mu w args' hb hargs hW cs
 let mu0:HMap:=λj=>if j<H0.length then mu (σ j)else none
 have hno:∀b,¬Own mu0 H0 b:=by
  rintro b ⟨id,o,p,h1,h2,_⟩
  obtain⟨vs,e,rw',rfl,_⟩:=h0 id o h1
  cases h2
 have hmu:∀(id:Nat) (o:HObj),H0[id]?=some o->mu0 id=mu (σ id):=by
  intro id o h1
  have:id<H0.length:=by
   rcases qaB id H0.length with h|h
   ·exact h
   ·rw[qah h]at h1;cases h1
  simp only[mu0,qd7 this]
 have hobj:∀(id:Nat) (o:HObj),H0[id]?=some o->∃p,mu0 id=some p/\objR mu0 p w.heap[p.b]? o:=by
  intro id o h1
  obtain⟨vs,e,rw',rfl,hf,hH⟩:=h0 id o h1
  obtain⟨p,h3,h4⟩:=hW.obj (σ id) _ hH rfl
  obtain⟨g1,g2,g3,c,e',fr,g4,g5,g6,g7⟩:=h4
  refine⟨p,by rw[hmu id _ h1];exact h3,g1,g2,g3,c,e',fr,g4,g5,λe=>by(cases e),λi v hv=>?_⟩
  obtain⟨v',q1,q2⟩:=g7 i v hv
  have h2:flat v=true:=qab.1 hf v (qad hv)
  refine⟨v',q1,?_⟩
  rw[cW h2 q2]
  exact .of_flat h2
 have hin:∀(p:Pl) (o:HObj) (m:HMap),o.alive=true->objR m p w.heap[p.b]? o->p.b<w.heap.size:=by
  intro p o m ha h
  obtain⟨y,hy⟩:=objR_some ha h
  rcases qaB p.b w.heap.size with h|h
  ·exact h
  ·rw[qa6 h]at hy;cases hy
 have hW0:WR C w.heap.size mu0 H0 w:=by
  refine⟨λid o h1 _=>hobj id o h1,λi j oi oj pi pj h1 h2 h3=>?_,λi o p h1 h2=>?_,λi o p h1 ha' _ h2=>?_,λid h1=>?_,λg vs hg=>?_⟩
  ·obtain⟨vs,e,rw',rfl,_⟩:=h0 i oi h1
   cases h3
  ·obtain⟨vs,e,rw',rfl,_⟩:=h0 i o h1
   cases h2
  ·obtain⟨p',h3,h4⟩:=hobj i o h1
   rw[h2]at h3
   cases h3
   exact hin _ _ _ ha' h4
  ·simp only[mu0,qd8 (qdX.2 h1)]
  ·obtain⟨h1,h2,c,e,fr,h3,h4⟩:=hW.glob g vs hg
   exact⟨by omega,h2,c,e,fr,h3,iU (hG g vs hg) h4⟩
 have hargs0:VRs noL mu0 args0 args'.toList:=ha mu mu0 _ (λj hj=>by simp only[mu0,qd7 hj]) hargs
 obtain⟨v,mu',w',a1,a2,a3,a4,a5⟩:=h _ w.heap.size mu0 w args' (qao _) hargs0 hW0 cs
 have hkeep:∀(b:Nat) x,w.heap[b]?=some x->w'.heap[b]?=some x:=by
  intro b x hx
  have hlt:b<w.heap.size:=by
   rcases qaB b w.heap.size with h|h
   ·exact h
   ·rw[qa6 h]at hx;cases hx
  rw[a3.keep b hlt (hno b)];exact hx
 let mu2:HMap:=λid=>if id<H.length then mu id else mu' (H0.length+(id - H.length))
 have hold:∀id,id<H.length->mu2 id=mu id:=λid hi=>by simp only[mu2,qd7 hi]
 have hnew:∀k,mu2 (H.length+k)=mu' (H0.length+k):=λk=>by
  simp only[mu2,qd8 (qdX.2 (qdH H.length k)),qca]
 have hlen:=a3.len
 have hmono:∀i p,mu i=some p->mu2 i=some p:=by
  intro i p hp
  rw[hold i];exact hp
  rcases qaB i H.length with h|h
  ·exact h
  ·rw[hW.dom i h]at hp;cases hp
 have hbeh:∀(id:Nat) (o:HObj),(H++(H'.drop H0.length).mapIdx kp)[id]?=some o->¬id<H.length->o.alive=true->
   ∃k vs e,id=H.length+k/\H'[H0.length+k]?=some (.cells vs e true)/\vs.all flat=true/\o = .cells vs e true:=by
  intro id o ho hid hal
  rw[qal (by omega),qbZ,qa5]at ho
  obtain⟨o',h1,rfl⟩:=qaf.1 ho
  obtain⟨vs,e,rfl,hf,e2⟩:=hkp _ _ hal
  exact⟨id - H.length,vs,e,by omega,h1,hf,e2⟩
 refine⟨v,mu2,w',?_,?_,?_,a4,a5⟩
 ·refine hr mu' mu2 v (λj hj=>?_) a1
  unfold jm
  by_cases hj0:j<H0.length
  ·rw[qd7 hj0]
   obtain⟨vs,e,rw',_,_,hH⟩:=h0 j _ (qau hj0)
   have:σ j<H.length:=by
    rcases qaB (σ j) H.length with h|h
    ·exact h
    ·rw[qah h]at hH;cases hH
   rw[hold _ this,a3.same j hj0]
   simp only[mu0,qd7 hj0]
  ·rw[qd8 hj0,hnew,show H0.length+(j - H0.length)=j by omega]
 ·refine⟨λid o h1 h2=>?_,λi j oi oj pi pj h1 h2 h3 h4 h5 h6 h7=>?_,λi o p h1 h2 h3=>?_,λi o p h1 h2 h3 h4=>?_,λid h1=>?_,λg vs hg=>?_⟩
  ·by_cases hid:id<H.length
   ·rw[qag hid]at h1
    obtain⟨p,h3,h4⟩:=hW.obj id o h1 h2
    exact⟨p,hmono _ _ h3,(oG (hkeep p.b) h4).mono hmono⟩
   ·obtain⟨k,vs,e,rfl,h3,hf,rfl⟩:=hbeh id o h1 hid h2
    obtain⟨p,h4,g1,g2,g3,c,e',fr,g4,g5,g6,g7⟩:=a2.obj _ _ h3 rfl
    refine⟨p,by rw[hnew];exact h4,g1,g2,g3,c,e',fr,g4,g5,g6,λi v hv=>?_⟩
    obtain⟨v',q1,q2⟩:=g7 i v hv
    have hfv:flat v=true:=qab.1 hf v (qad hv)
    refine⟨v',q1,?_⟩
    rw[cW hfv q2]
    exact .of_flat hfv
  ·by_cases hi:i<H.length
   ·rw[qag hi]at h1
    rw[hold i hi]at h6
    by_cases hj:j<H.length
    ·rw[qag hj]at h2
     rw[hold j hj]at h7
     exact hW.inj i j oi oj pi pj h1 h2 h3 h4 h5 h6 h7
    ·obtain⟨k,vs,e,rfl,q1,hf,rfl⟩:=hbeh j oj h2 hj h4
     rw[hnew]at h7
     have hb2:=a2.own _ _ _ q1 rfl h7
     obtain⟨p,h8,h9⟩:=hW.obj i oi h1 (ba h3)
     rw[h6]at h8;cases h8
     have:=hin _ _ _ (ba h3) h9
     omega
   ·obtain⟨k,vs,e,rfl,q1,hf,rfl⟩:=hbeh i oi h1 hi (ba h3)
    rw[hnew]at h6
    have hb2:=a2.own _ _ _ q1 rfl h6
    by_cases hj:j<H.length
    ·rw[qag hj]at h2
     rw[hold j hj]at h7
     obtain⟨p,h8,h9⟩:=hW.obj j oj h2 h4
     rw[h7]at h8;cases h8
     have:=hin _ _ _ h4 h9
     omega
    ·obtain⟨k2,vs2,e2,rfl,q2,hf2,rfl⟩:=hbeh j oj h2 hj h4
     rw[hnew]at h7
     exact a2.inj _ _ _ _ _ _ q1 q2 rfl rfl (by omega) h6 h7
  ·by_cases hi:i<H.length
   ·rw[qag hi]at h1
    rw[hold i hi]at h3
    exact hW.own i o p h1 h2 h3
   ·obtain⟨k,vs,e,rfl,q1,hf,rfl⟩:=hbeh i o h1 hi (ba h2)
    rw[hnew]at h3
    have:=a2.own _ _ _ q1 rfl h3
    omega
  ·by_cases hi:i<H.length
   ·rw[qag hi]at h1
    rw[hold i hi]at h4
    exact hW.ro i o p h1 h2 h3 h4
   ·obtain⟨k,vs,e,rfl,q1,hf,rfl⟩:=hbeh i o h1 hi h2
    cases h3
  ·rw[qaC,List.length_mapIdx,qbI]at h1
   have:¬id<H.length:=by omega
   simp only[mu2,qd8 this]
   exact a2.dom _ (by omega)
  ·obtain⟨h1,h2,c,e,fr,h3,h4⟩:=hW.glob g vs hg
   exact⟨h1,h2,c,e,fr,hkeep _ _ h3,iU (hG g vs hg) h4⟩
 ·refine⟨by simp,λid hid=>hold id hid,a3.size,λb hb _=>a3.keep b hb (hno b),λb hb=>?_,a3.os,a3.tape,a3.output,a3.dr⟩
  obtain⟨id,o,p,q1,q2,q3,rfl⟩:=hb
  by_cases hid:id<H.length
  ·rw[qag hid]at q1
   rw[hold id hid]at q3
   exact .inr ⟨id,o,p,q1,q2,q3,rfl⟩
  ·obtain⟨k,vs,e,rfl,q4,hf,rfl⟩:=hbeh id o q1 hid (ba q2)
   rw[hnew]at q3
   exact .inl (a2.own _ _ _ q4 rfl q3)
def call_alI(kp:Nat->HObj->HObj)(hkp:∀k o,(kp k o).alive=true->∃vs e,o = .cells vs e true/\vs.all flat=true/\kp k o = .cells vs e true){C:Cfg}{N:Tb}{Sg:Tc}(hm:C.P.follows .mixedOrders=true)(hG:∀g vs,C.G g=some vs->vs.all gfl=true){g:TQ}(hn:N g=none){ls0 rs:TE}{H0 H' H:Ts}(σ:TB)
  (h:let _:Kno:=KnoC C N;aw C Sg g ls0 H0 rs H')
  (h0:∀(j:Nat) (o:HObj),H0[j]?=some o->∃vs e rw,o = .cells vs e false/\vs.all flat=true/\H[σ j]?=some (.cells vs e rw))
  (hl:∀l∈ls0,OkL H0.length l) (hrl:∀l∈rs,OkL H'.length l):let _:Kno:=KnoC C N;aw C Sg g (ls0.map (renL σ)) H (rs.map (renL (jm H0.length H.length σ))) (H++(H'.drop H0.length).mapIdx kp):=by
 let _:Kno:=KnoC C N
 obtain⟨sg,xs,ys,c1,c2,c3,c4⟩:=h
 have hx:∀x∈xs,∀l∈x.cells,OkL H0.length l.lf:=λx hx l hl'=>hl _ (by rw[←c2.2.1];exact oq hx hl')
 have hy:∀x∈ys,∀l∈x.cells,OkL H'.length l.lf:=λx hx l hl'=>hrl _ (by rw[←c3.2.1];exact oq hx hl')
 have gd:∀(τ:TB) (zs:List S0),(∀x∈zs,x.good)->∀x∈zs.map (renS τ),x.good:=by
  intro τ zs hz x hx'
  obtain⟨y,hy,rfl⟩:=qaK.1 hx'
  intro l hl'
  rw[nM]at hl'
  obtain⟨l',hl'',rfl⟩:=qaK.1 hl'
  exact xg (hz y hy l' hl'')
 refine⟨sg,xs.map (renS σ),ys.map (renS (jm H0.length H.length σ)),c1,⟨by rw[jQ];exact c2.1,by rw[ki,c2.2.1],gd _ _ c2.2.2⟩,⟨by rw[jQ];exact c3.1,by rw[ki,c3.2.1],gd _ _ c3.2.2⟩,⟨0,?_⟩⟩
 exact .inr ⟨.inl hn,frame_alI kp hkp hG σ (iP hm c4) h0 (λmu mu0 cs hmu h=>vrs_ren hmu hx h) λmu' mu'' c hmu h=>vr_pack' hmu hy h⟩
def zc{α β:Type}(f:α->β)(l:List α):l.mapIdx (λ_=>f)=l.map f:=by
 apply qaR
 intro i
 rw[qbZ,qan]
def wI(kp:HObj->HObj)(hkp:∀o,(kp o).alive=true->∃vs e,o = .cells vs e true/\vs.all flat=true/\kp o = .cells vs e true){C:Cfg}{N:Tb}{Sg:Tc}(hm:C.P.follows .mixedOrders=true)(hG:∀g vs,C.G g=some vs->vs.all gfl=true){g:TQ}(hn:N g=none){ls0 rs:TE}{H0 H' H:Ts}(σ:TB)
  (h:let _:Kno:=KnoC C N;aw C Sg g ls0 H0 rs H')
  (h0:∀(j:Nat) (o:HObj),H0[j]?=some o->∃vs e rw,o = .cells vs e false/\vs.all flat=true/\H[σ j]?=some (.cells vs e rw))
  (hl:∀l∈ls0,OkL H0.length l) (hrl:∀l∈rs,OkL H'.length l):let _:Kno:=KnoC C N;aw C Sg g (ls0.map (renL σ)) H (rs.map (renL (jm H0.length H.length σ))) (H++(H'.drop H0.length).map kp):=by
 have:=call_alI (λ_=>kp) (λ_=>hkp) hm hG hn σ h h0 hl hrl
 rwa [zc]at this
def call_al{C:Cfg}{N:Tb}{Sg:Tc}(hm:C.P.follows .mixedOrders=true)(hG:∀g vs,C.G g=some vs->vs.all gfl=true){g:TQ}(hn:N g=none){ls0 rs:TE}{H0 H' H:Ts}(σ:TB)
  (h:let _:Kno:=KnoC C N;aw C Sg g ls0 H0 rs H')
  (h0:∀(j:Nat) (o:HObj),H0[j]?=some o->∃vs e rw,o = .cells vs e false/\vs.all flat=true/\H[σ j]?=some (.cells vs e rw))
  (hl:∀l∈ls0,OkL H0.length l) (hrl:∀l∈rs,OkL H'.length l):let _:Kno:=KnoC C N;aw C Sg g (ls0.map (renL σ)) H (rs.map (renL (jm H0.length H.length σ))) (H++(H'.drop H0.length).map yU):=
 wI yU (λ_ h=>vL h) hm hG hn σ h h0 hl hrl
end
end Sx
end Go.Am
namespace Go.Am
open Sx Go.Proofs
def known_val{g n:Nat}{ls rs:TE}{sg:Sig}(hs:ac g=some sg)(hp:sg.plain=true)(hg:gR ls=true)(h:runF n (.f g) ls .empty tell=some rs):∀H,aw cc ac g ls H rs H:=by
 obtain⟨rs',h',a1,a2⟩:=(oZ n).f g ls .empty tell rs (dY hg) h
 rw[wz]at a2
 cases a2
 exact xU g sg ls _ _ hs hp a1
def yT(rs':TE):Option (TE)->Bool:=λo=>@Option.rec _ (λ_=>Bool) false (λrs=>eqLs rs rs') o
def fW{g n:Nat}{ls rs:TE}{sg:Sig}(hs:ac g=some sg)(hp:sg.plain=true)(hg:gR ls=true)(h:yT rs (runF n (.f g) ls .empty tell)=true):∀H,aw cc ac g ls H rs H:=by
 cases e:runF n (.f g) ls .empty tell with
 |none=>rw[e]at h;cases h
 |some rs'=>
  rw[e]at h
  have h:eqLs rs' rs=true:=h
  rw[kW h]at e
  exact known_val hs hp hg e
def eqCell(a b:Value):Bool:=match a,b with
 | .int k n,.int k' n'=>dC k k'&&eqZK n n'
 | .bool t,.bool t'=>eqBK t t'
 |_,_=>false
def eqCell_ok{a b:Value}(h:eqCell a b=true):a=b/\flat b=true:=by
 unfold eqCell at h
 split at h
 ·simp only[qaa]at h
  have h2:=h.2
  rw[rF,beq_iff_eq]at h2
  rw[dd h.1,h2]
  exact⟨rfl,rfl⟩
 next a b=>
  cases a<;>cases b<;>first|exact⟨rfl,rfl⟩|cases h
 ·cases h
def rD(c:Tr Value):Tl->Nat->Bool
 | [],_=>true
 |v :: l,i=>eqCell ((bE i).get nilV c) v&&rD c l (i+1)
def qb{c:Tr Value}:∀ {l:Tl} {i:Nat},rD c l i=true->(∀j (h:j<l.length),(bE (i+j)).get nilV c=l[j])/\l.all flat=true
 | [],i,_=>⟨λj h=>by simp at h,rfl⟩
 |v :: l,i,h=>by
  simp only[rD,qaa]at h
  obtain⟨h1,h2⟩:=eqCell_ok h.1
  obtain⟨h3,h4⟩:=qb h.2
  refine⟨λj hj=>?_,by simp[h2,h4]⟩
  cases j with
  |zero=>exact h1
  |succ j=>
   have:=h3 j (by simpa using hj)
   rw[show i+(j+1)=i+1+j by omega]
   simpa using this
def isSl(h:HTr)(x:Value)(e n:Nat)(cells:Tl):Bool:=match x with
 | .slice none 0 0=>Nat.beq n 0&&Nat.beq cells.length 0
 | .slice (some a) len _=>Nat.beq len n&&Nat.beq a.off 0&&Nat.beq cells.length (n*e)&&tagB a.spot e&&(match h.at a.block with
  |some (.t m e' true c)=>Nat.beq m (n*e)&&Nat.beq e' e&&rD c cells 0
  |_=>false)
 |_=>false
def isSl_ok{h:HTr}{x:Value}{e n:Nat}{cells:Tl}(hx:isSl h x e n cells=true):cells.length=n*e/\cells.all flat=true/\((x = .slice none 0 0/\n=0)∨∃id cx,x = .slice (some ⟨id,0,tag e⟩) n cx/\id<h.n/\(toL h)[id]?=some (.o (.cells cells e true))):=by
 unfold isSl at hx
 split at hx
 ·simp only[qaa]at hx
  have h1:=qac hx.1
  have h2:=qac hx.2
  subst h1
  rw[qbi]at h2
  subst h2
  exact⟨by simp,rfl,.inl ⟨rfl,rfl⟩⟩
 next a len cx=>
  simp only[qaa]at hx
  obtain⟨⟨⟨⟨h1,h2⟩,h3⟩,h4⟩,h5⟩:=hx
  have h1:=qac h1
  have h2:=qac h2
  have h3:=qac h3
  have h4:=kI.1 h4
  subst h1
  split at h5
  next m e' c hat=>
   simp only[qaa]at h5
   obtain⟨⟨g1,g2⟩,g3⟩:=h5
   have g1:=qac g1
   have g2:=qac g2
   subst g1 g2
   obtain⟨g4,g5⟩:=qb g3
   have ha:a=⟨a.block,0,tag e'⟩:=by cases a;simp_all
   have hc:bR c (len*e')=cells:=by
    apply List.ext_getElem
    ·rw[bg,h3]
    ·intro i hi hi'
     have:=dK c (i:=i) (n:=len*e') (by rw[bg]at hi;exact hi)
     rw[qau hi]at this
     have:=qap this
     rw[this,←g4 i hi',qaN]
   refine⟨h3,g5,.inr ⟨a.block,cx,by rw[ha],?_,?_⟩⟩
   ·unfold HTr.at at hat
    split at hat
    next hb=>rw[qaO]at hb;exact hb
    ·cases hat
   ·rw[jK,hat]
    show some (HO.o (.cells (bR c (len*e')) e' true))=_
    rw[hc]
  ·cases h5
 ·cases hx
def wE(T:Tt)(h G:HL):absH T (h++G)=absH T h++absH T G:=by simp[absH]
def absH_o(T:Tt)(l:Ts):absH T (l.map HO.o)=l:=by
 induction l with
 |nil=>rfl
 |cons a l ih=>show absO T (.o a) :: absH T (l.map HO.o)=_;rw[ih];rfl
def made{g n:Nat}{ls rest:TE}{e m:Nat}{cells:Tl}(hg:gR ls=true)(hno:neuN g=none)(hl:ls.all (λl=>match l with | .v _=>false|_=>true)=true)(hr:rest.all (λl=>match l with | .v _=>false|_=>true)=true)
  (h:runF n (.f g) ls .empty (λrs h=>match rs with
   | .v x :: r=>ans (eqLs r rest&&isSl h x e m cells)
   |_=>none)=yes) (H:HL):∃x G,aw cc ac g ls (absH aa H) (.v x :: rest) (absH aa (H++G))/\SlC (H++G) x e m cells:=by
 obtain⟨rs,h',a1,a2⟩:=(oZ n).f g ls .empty _ [] (dY hg) h
 split at a2
 next x r=>
  have a2:=ans_yes a2
  simp only[qaa]at a2
  obtain⟨a2,a3⟩:=a2
  have a2:=kW a2
  subst a2
  obtain⟨b1,b2,b3⟩:=isSl_ok a3
  have plainR:∀(l:TE) (σ:TB),l.all (λl=>match l with | .v _=>false|_=>true)=true->l.map (renL σ)=l:=by
   intro l σ hl
   induction l with
   |nil=>rfl
   |cons a l ih=>
    simp only[qbK,qaa]at hl
    rw[qav,ih hl.2]
    cases a<;>first|rfl|(simp at hl)
  have plainOk:∀(l:TE) (n:Nat),l.all (λl=>match l with | .v _=>false|_=>true)=true->∀a∈l,OkL n a:=by
   intro l n hl a ha
   have:=qab.1 hl a ha
   cases a<;>first|trivial|cases this
  have e0:absH aa (toL HTr.empty)=[]:=rfl
  rw[e0]at a1
  have key:=call_al (N:=neuN) mixed jz hno (H:=absH aa H) id a1 (λj o hj=>by simp at hj) (plainOk ls _ hl) (λl hl'=>by
   rcases qak.1 hl' with rfl|hl'
   ·rcases b3 with⟨rfl,_⟩|⟨id,cx,rfl,hid,_⟩
    ·exact .inl ⟨rfl,λ_=>rfl⟩
    ·exact .inr ⟨id,0,m,cx,e,by rw[cT,dv];exact hid,rfl⟩
   ·exact plainOk _ _ hr l hl')
  rw[plainR ls id hl,qav,plainR _ _ hr,qbp,qbj]at key
  refine⟨renV (jm 0 (absH aa H).length id) x,((absH aa (toL h')).map yU).map .o,?_,b1,?_⟩
  ·rw[wE,absH_o];exact key
  ·rcases b3 with⟨rfl,hm⟩|⟨id',cx,rfl,hid,hb⟩
   ·exact .inl ⟨rfl,hm⟩
   ·refine .inr ⟨_,0,cx,cells,true,rfl,?_,Sx.cut_all b1⟩
    unfold jm
    rw[qd8 (qbX _),qdV,cT,qal (by omega),qca,qan,qan]
    have:(absH aa (toL h'))[id']?=some (.cells cells e true):=by
     unfold absH
     rw[qan,hb];rfl
    rw[this]
    show some (HO.o (if cells.all flat=true then HObj.cells cells e true else .dead))=_
    rw[qd7 b2]
 ·cases a2
end Go.Am
namespace Go.Am
namespace Sx
section
variable [Val] [Kno] {C:Cfg} {Sg:Tc} {T:Tt}
def bB{j:Nat}{K:Tu}(h:j<=4294967296):(PH C Sg T).ari .add .i64 (Int.ofNat j) 1 (@hid _ ⟨K⟩)=K (Int.ofNat j+1):=
 p_add (by show -9223372036854775808<=(j:Int)+1;omega) (by show(j:Int)+1<=9223372036854775807;omega)
def n_sub{j:Nat}{K:Tu}(h1:1<=j)(h:j<=4294967296):(PH C Sg T).ari .sub .i64 (Int.ofNat j) 1 (@hid _ ⟨K⟩)=K (Int.ofNat (j - 1)):=by
 rw[p_sub (by show -9223372036854775808<=(j:Int) - 1;omega) (by show(j:Int) - 1<=9223372036854775807;omega)]
 congr 1
 show(j:Int) - 1=((j - 1:Nat):Int)
 omega
def aU{j n:Nat}{K:Tn}(h:j<n):(PH C Sg T).cmp .lss (Int.ofNat j) (Int.ofNat n) (@hid _ ⟨K⟩)=K true:=p_lss_t (by show(j:Int)<n;omega)
def aX{j n:Nat}{K:Tn}(h:n<=j):(PH C Sg T).cmp .lss (Int.ofNat j) (Int.ofNat n) (@hid _ ⟨K⟩)=K false:=p_lss_f (by show(n:Int)<=j;omega)
end
def aM{α:Type}{l:List α}{i:Nat}{a:α}(h:l[i]?=some a):i<l.length:=by
 rcases qaB i l.length with h1|h1
 ·exact h1
 ·rw[qah h1]at h;cases h
def aK{α:Type}{l:List α}{i:Nat}(h:i<l.length):∃a,l[i]?=some a:=⟨_,qau h⟩
end Sx
end Go.Am
namespace Go.Am
open Sx
def mA(t:Nat):Int:=match t with
 |0=>1|1=>0|2=>-1|3=>0|4=>-1|5=>0|6=>1|_=>0
def mB(t:Nat):Int:=match t with
 |0=>0|1=>-1|2=>0|3=>1|4=>0|5=>-1|6=>0|_=>1
def mC(t:Nat):Int:=match t with
 |0=>0|1=>1|2=>0|3=>-1|4=>0|5=>-1|6=>0|_=>1
def mD(t:Nat):Int:=match t with
 |0=>1|1=>0|2=>-1|3=>0|4=>1|5=>0|6=>-1|_=>0
def mulT(s t:Nat):Nat:=if s<4 then(if t<4 then(s+t)%4 else 4+(t+4 - s)%4)else(if t<4 then 4+(s+t)%4 else(t+8 - s)%4)
abbrev Mv:=Nat×Int×Int
def aG(a b:Mv):Mv:=(mulT a.1 b.1,mA b.1*a.2.1+mB b.1*a.2.2+b.2.1,mC b.1*a.2.1+mD b.1*a.2.2+b.2.2)
def idM:Mv:=(0,0,0)
def okM(n:Int)(m:Mv):Prop:=m.1<8/\-n<=m.2.1/\m.2.1<=n/\-n<=m.2.2/\m.2.2<=n/\(m.2.1+m.2.2)%2=0
def t8{t:Nat}(h:t<8):t=0∨t=1∨t=2∨t=3∨t=4∨t=5∨t=6∨t=7:=by omega
def oD{s t:Nat}:mulT s t<8:=by
 unfold mulT
 repeat' split
 all_goals omega
def ze{a b c:Nat}(ha:a<8)(hb:b<8)(hc:c<8):mulT (mulT a b) c=mulT a (mulT b c):=by
 have key:((List.range 8).all λa=>(List.range 8).all λb=>(List.range 8).all λc=>mulT (mulT a b) c==mulT a (mulT b c))=true:=by decide +kernel
 have h1:=qab.1 key a (qae.2 ha)
 have h2:=qab.1 h1 b (qae.2 hb)
 have h3:=qab.1 h2 c (qae.2 hc)
 simpa using h3
def cL{a b c:Mv}(ha:a.1<8)(hb:b.1<8)(hc:c.1<8):aG (aG a b) c=aG a (aG b c):=by
 obtain⟨at',ax,ay⟩:=a
 obtain⟨bt,bx,by'⟩:=b
 obtain⟨ct,cx,cy⟩:=c
 simp only at ha hb hc
 unfold aG
 refine qdj (ze ha hb hc) ?_
 simp only
 clear ha
 rcases t8 hb with rfl|rfl|rfl|rfl|rfl|rfl|rfl|rfl<;>rcases t8 hc with rfl|rfl|rfl|rfl|rfl|rfl|rfl|rfl<;>
  (refine qdj ?_ ?_<;>simp[mulT,mA,mB,mC,mD]<;>omega)
def yo{a:Mv}(ha:a.1<8):aG a idM=a:=by
 obtain⟨t,x,y⟩:=a
 have ha:t<8:=ha
 unfold aG idM
 simp only[mA,mB,mC,mD]
 refine qdj ?_ (qdj (by simp) (by simp))
 rcases t8 ha with rfl|rfl|rfl|rfl|rfl|rfl|rfl|rfl<;>simp[mulT]
def nh{a:Mv}(ha:a.1<8):aG idM a=a:=by
 obtain⟨t,x,y⟩:=a
 have ha:t<8:=ha
 unfold aG idM
 refine qdj ?_ (qdj (by simp) (by simp))
 rcases t8 ha with rfl|rfl|rfl|rfl|rfl|rfl|rfl|rfl<;>simp[mulT]
def invT(t:Nat):Nat:=match t with
 |1=>3|3=>1|n=>n
def invM(m:Mv):Mv:=(invT m.1,-(mA (invT m.1)*m.2.1+mB (invT m.1)*m.2.2),-(mC (invT m.1)*m.2.1+mD (invT m.1)*m.2.2))
def inv_id{m:Mv}(h:m.1<8):aG m (invM m)=idM:=by
 obtain⟨t,x,y⟩:=m
 have h:t<8:=h
 unfold aG invM idM
 rcases t8 h with rfl|rfl|rfl|rfl|rfl|rfl|rfl|rfl<;>simp[mulT,mA,mB,mC,mD,invT]<;>omega
def br{n k:Int}{m:Mv}(h:okM n m)(hk:n<=k):okM k m:=by
 unfold okM at *
 omega
def okM_id{n:Int}(h:0<=n):okM n idM:=by
 unfold okM idM
 simp only
 omega
def cq{n k:Int}{a b:Mv}(ha:okM n a)(hb:okM k b):okM (n+k) (aG a b):=by
 obtain⟨at',ax,ay⟩:=a
 obtain⟨bt,bx,by'⟩:=b
 unfold okM aG at *
 simp only at *
 obtain⟨a1,a2⟩:=ha
 obtain⟨b1,b2⟩:=hb
 refine⟨oD,?_⟩
 clear a1
 rcases t8 b1 with rfl|rfl|rfl|rfl|rfl|rfl|rfl|rfl<;>simp only[mA,mB,mC,mD]<;>omega
def okM_inv{n:Int}{a:Mv}(ha:okM n a):okM n (invM a):=by
 obtain⟨at',ax,ay⟩:=a
 unfold okM invM at *
 simp only at *
 obtain⟨a1,a2⟩:=ha
 rcases t8 a1 with rfl|rfl|rfl|rfl|rfl|rfl|rfl|rfl<;>simp[mA,mB,mC,mD,invT]<;>omega
abbrev Ln:=Nat×Int
def ofM(l:Ln):Mv:=match l.1 with
 |1=>(4,2*l.2,0)
 |2=>(6,0,2*l.2)
 |3=>(5,l.2,l.2)
 |_=>(7,-l.2,l.2)
def qw{l:Ln}{n:Int}(h:-n<=l.2/\l.2<=n):okM (2*n) (ofM l):=by
 obtain⟨k,c⟩:=l
 unfold ofM okM
 simp only at h ⊢
 split<;>simp only<;>omega
def gS(l:Ln):(ofM l).1<8:=by
 unfold ofM
 split<;>simp
def oJ(l:Ln):aG (ofM l) (ofM l)=idM:=by
 obtain⟨k,c⟩:=l
 unfold ofM aG idM
 simp only
 split<;>simp[mulT,mA,mB,mC,mD]<;>omega
abbrev Cl:=Int×Int×Nat
def lnC3(c:Cl)(e:Nat):Ln:=match e with
 |0=>(match c.2.2 with
  |0=>(2,c.2.1)
  |1=>(1,c.1+1)
  |2=>(2,c.2.1+1)
  |_=>(1,c.1))
 |1=>(3,c.1+c.2.1+1)
 |_=>(4,c.2.1 - c.1)
def nbC(c:Cl)(e:Nat):Cl:=match e with
 |0=>(match c.2.2 with
  |0=>(c.1,c.2.1 - 1,2)
  |1=>(c.1+1,c.2.1,3)
  |2=>(c.1,c.2.1+1,0)
  |_=>(c.1 - 1,c.2.1,1))
 |1=>(c.1,c.2.1,[1,0,3,2].getD c.2.2 0)
 |_=>(c.1,c.2.1,[3,2,1,0].getD c.2.2 0)
def qT(t q:Nat):Nat:=if t<4 then(q+t)%4 else([0,3,2,1].getD ((q+t)%4) 0+(if t%2=0 then 0 else 2))%4
def aZ(m:Mv)(c:Cl):Cl:=(mA m.1*c.1+mB m.1*c.2.1+m.2.1 - (if mA m.1+mB m.1=1 then 0 else 1),mC m.1*c.1+mD m.1*c.2.1+m.2.2 - (if mC m.1+mD m.1=1 then 0 else 1),qT m.1 c.2.2)
def ee(l:Ln)(c:Cl):Bool:=match l.1 with
 |1=>decide (l.2<=c.1)
 |2=>decide (l.2<=c.2.1)
 |3=>decide (l.2<=c.1+c.2.1+(if c.2.2=1∨c.2.2=2 then 1 else 0))
 |_=>decide (l.2<=c.2.1 - c.1 - (if c.2.2=2∨c.2.2=3 then 0 else 1))
def part_ln{l:Ln}{c:Cl}{e:Nat}(hl:1<=l.1/\l.1<=4)(hq:c.2.2<4)(he:e<3)(h:ee l c≠ee l (nbC c e)):l=lnC3 c e:=by
 obtain⟨k,n⟩:=l
 obtain⟨x,y,q⟩:=c
 simp only at hl hq
 obtain rfl|rfl|rfl|rfl:q=0∨q=1∨q=2∨q=3:=by omega
 all_goals obtain rfl|rfl|rfl:e=0∨e=1∨e=2:=by omega
 all_goals obtain rfl|rfl|rfl|rfl:k=1∨k=2∨k=3∨k=4:=by omega
 all_goals
  simp[ee,nbC,lnC3]at h ⊢
 all_goals first|done|omega|(exfalso;omega)
def eT(t e:Nat):Nat:=if e=0 then 0 else if t%2=0/\t<4∨t=5∨t=7 then e else 3 - e
def move_nb{m:Mv}{c:Cl}{e:Nat}(hm:m.1<8)(hq:c.2.2<4)(he:e<3):aZ m (nbC c e)=nbC (aZ m c) (eT m.1 e):=by
 obtain⟨t,mx,my⟩:=m
 obtain⟨x,y,q⟩:=c
 simp only at hm hq
 rcases t8 hm with rfl|rfl|rfl|rfl|rfl|rfl|rfl|rfl
 all_goals obtain rfl|rfl|rfl|rfl:q=0∨q=1∨q=2∨q=3:=by omega
 all_goals obtain rfl|rfl|rfl:e=0∨e=1∨e=2:=by omega
 all_goals simp[aZ,nbC,eT,qT,mA,mB,mC,mD]
 all_goals first|done|omega|(constructor<;>omega)
def move_ln{m:Mv}{c:Cl}{e:Nat}(hm:m.1<8)(hq:c.2.2<4)(he:e<3):aG m (ofM (lnC3 (aZ m c) (eT m.1 e)))=aG (ofM (lnC3 c e)) m:=by
 obtain⟨t,mx,my⟩:=m
 obtain⟨x,y,q⟩:=c
 simp only at hm hq
 rcases t8 hm with rfl|rfl|rfl|rfl|rfl|rfl|rfl|rfl
 all_goals obtain rfl|rfl|rfl|rfl:q=0∨q=1∨q=2∨q=3:=by omega
 all_goals obtain rfl|rfl|rfl:e=0∨e=1∨e=2:=by omega
 all_goals simp[aZ,eT,qT,mA,mB,mC,mD,aG,ofM,lnC3,mulT]
 all_goals first|done|omega|(constructor<;>omega)
def eT_lt{t e:Nat}(he:e<3):eT t e<3:=by
 unfold eT
 repeat' split
 all_goals omega
def qT_lt{t q:Nat}:qT t q<4:=by
 unfold qT
 split<;>omega
def part_fold{g:Mv}{l:Ln}{c:Cl}{e:Nat}(hg:g.1<8)(hl:1<=l.1/\l.1<=4)(hq:c.2.2<4)(he:e<3)(h:ee l (aZ g c)≠ee l (aZ g (nbC c e))):aG g (ofM l)=aG (ofM (lnC3 c e)) g:=by
 rw[move_nb hg hq he]at h
 have:=part_ln hl qT_lt (eT_lt he) h
 rw[this]
 exact move_ln hg hq he
def oy{g:Mv}{c:Cl}{e:Nat}(hg:g.1<8)(hq:c.2.2<4)(he:e<3):aZ (aG (ofM (lnC3 c e)) g) (nbC c e)=aZ g c:=by
 obtain⟨t,mx,my⟩:=g
 obtain⟨x,y,q⟩:=c
 simp only at hg hq
 rcases t8 hg with rfl|rfl|rfl|rfl|rfl|rfl|rfl|rfl
 all_goals obtain rfl|rfl|rfl|rfl:q=0∨q=1∨q=2∨q=3:=by omega
 all_goals obtain rfl|rfl|rfl:e=0∨e=1∨e=2:=by omega
 all_goals simp[aZ,nbC,qT,mA,mB,mC,mD,aG,ofM,lnC3,mulT]
 all_goals first|done|omega|(constructor<;>omega)
end Go.Am
namespace Go.Am
open Sx Go.Proofs
def vi(f:TQ)(ls rs:TE):Bool:=yT rs (runF 60 (.f f) ls .empty tell)
def jL{f:TQ}{ls rs:TE}{sg:Sig}(h:vi f ls rs=true)(hs:ac f=some sg)(hp:sg.plain=true)(hg:gR ls=true):Cc f ls rs:=fW (n:=60) hs hp hg h
abbrev mvl(m:Mv):TE:=[.i (Int.ofNat m.1),.i m.2.1,.i m.2.2]
abbrev cll(c:Cl):TE:=[.i c.1,.i c.2.1,.i (Int.ofNat c.2.2)]
def mN{n:Int}(h:-16384<=n/\n<=16384):Cc 86 [.i n] [.b false]:=by
 refine q86 rfl ?_;unfold f86;simp only[qxh]
 repeat (first|simp(disch:=omega)only[↓qXX])
 try rfl
def mchk_c{t x y:Int}(ht:0<=t/\t<8)(hx:-16384<=x/\x<=16384)(hy:-16384<=y/\y<=16384)(hp:(x+y)%2=0):Cc 57 [.i t,.i x,.i y] [.i 0]:=by
 refine q57 rfl ?_;unfold f57;simp only[qxh]
 rcases qcn 0 (x+y)with hs|hs
 ·repeat (first|simp(disch:=omega)only[↓qXX]|refine af (mN hx) ?_|refine af (mN hy) ?_|rw[p_rem_nn hs (by omega)])
 ·have h0:-(-(x+y)%2)=0:=by omega
  repeat (first|simp(disch:=omega)only[↓qXX]|refine af (mN hx) ?_|refine af (mN hy) ?_|rw[p_rem_np hs (by omega)])
def sd{n:Int}{m:Mv}(h:okM n m)(hn:n<=16384):Cc 57 (mvl m) [.i 0]:=by
 obtain⟨h1,h2,h3,h4,h5,h6⟩:=h
 exact mchk_c ⟨qaY _,by show(m.1:Int)<8;omega⟩ (by omega) (by omega) h6
def uG{t:Nat}(h:t<8):mE gl0 0 [(Int.ofNat t,4)] 4=some [.int .i64 (mA t),.int .i64 (mB t),.int .i64 (mC t),.int .i64 (mD t)]:=by
 rcases t8 h with rfl|rfl|rfl|rfl|rfl|rfl|rfl|rfl<;>kernel_rfl
def yS{n t:Nat}(h:t<n):inB n (Int.ofNat t)=some ():=by
 show(match Nat.blt t n with
  |true=>some ()
  |false=>none)=some ()
 rw[show Nat.blt t n=true by rw[qaO];exact h]
def mof_c{t:Nat}(ht:t<8){x y:Int}(h:-200000<=x/\x<=200000/\-200000<=y/\y<=200000):Cc 93 [.i (mA t),.i (mB t),.i (mC t),.i (mD t),.i x,.i y] [.i (mA t*x+mB t*y),.i (mC t*x+mD t*y)]:=by
 rcases t8 ht with rfl|rfl|rfl|rfl|rfl|rfl|rfl|rfl
 all_goals
  simp only[mA,mB,mC,mD]
  refine q93 rfl ?_;unfold f93;simp only[qxh]
  repeat (first|simp(disch:=omega)only[↓qXX])
  (try simp only[qaV,Lf.i.injEq,and_true,true_and]);(try omega)
def thenT(s t:Nat):Bool:=vi 96 [.i (mA s),.i (mB s),.i (mC s),.i (mD s),.i (mA t),.i (mB t),.i (mC t),.i (mD t)] [.i (mA (mulT s t)),.i (mB (mulT s t)),.i (mC (mulT s t)),.i (mD (mulT s t))]
def numT(t:Nat):Bool:=vi 95 [.i (mA t),.i (mB t),.i (mC t),.i (mD t)] [.i (.ofNat t)]
def yp:((List.range 8).all λs=>numT s&&(List.range 8).all λt=>thenT s t)=true:=by kernel_rfl
def thenT_c{s t:Nat}(hs:s<8)(ht:t<8):Cc 96 [.i (mA s),.i (mB s),.i (mC s),.i (mD s),.i (mA t),.i (mB t),.i (mC t),.i (mD t)] [.i (mA (mulT s t)),.i (mB (mulT s t)),.i (mC (mulT s t)),.i (mD (mulT s t))]:=by
 have h:=qab.1 yp s (qae.2 hs)
 rw[qaa]at h
 exact jL (qab.1 h.2 t (qae.2 ht)) rfl (by kernel_rfl) rfl
def numT_c{t:Nat}(ht:t<8):Cc 95 [.i (mA t),.i (mB t),.i (mC t),.i (mD t)] [.i (.ofNat t)]:=by
 have h:=qab.1 yp t (qae.2 ht)
 rw[qaa]at h
 exact jL h.1 rfl (by kernel_rfl) rfl
def limited_c{m:Mv}{n:Int}(h:okM n m)(hn:n<=16384):Cc 94 (mvl m) (mvl m++[.i 0]):=by
 refine q94 rfl ?_;unfold f94;simp only[qxh]
 repeat (first|simp(disch:=omega)only[↓qXX]|refine af (sd h hn) ?_)
 rfl
def then_c{a b:Mv}{n k:Int}(ha:okM n a)(hb:okM k b)(hn:0<=n/\0<=k/\n+k<=16384):Cc 60 (mvl a++mvl b) (mvl (aG a b)++[.i 0]):=by
 have h0:=cq ha hb
 refine q60 rfl ?_;unfold f60;simp only[qxh]
 simp only[mvl,qaI,qaG]
 repeat (first|simp(disch:=omega)only[↓qXX]|refine af (sd ha (by omega)) ?_|refine af (sd hb (by omega)) ?_|refine au (yS hb.1) ?_|refine au (uG hb.1) ?_|refine af (mof_c hb.1 ⟨by have:=ha.2;omega,by have:=ha.2;omega,by have:=ha.2;omega,by have:=ha.2;omega⟩) ?_|refine au (yS ha.1) ?_|refine au (uG ha.1) ?_|refine af (thenT_c ha.1 hb.1) ?_|refine af (numT_c oD) ?_)
 have hz:∀z:Int,(-n<=z/\z<=n)∨True:=λ_=>.inr trivial
 obtain⟨h1,h2,h3,h4,h5,h6⟩:=h0
 unfold aG at h2 h3 h4 h5
 simp only at h2 h3 h4 h5
 rw[p_add (by omega) (by omega),p_add (by omega) (by omega)]
 refine af (limited_c (m:=aG a b) ⟨h1,h2,h3,h4,h5,h6⟩ (by omega)) ?_
 simp only[mvl,qaI,qaG]
 refine p_x ?_
 rfl
def lchk_c{k c:Int}(hk:1<=k/\k<=4)(hc:-4096<=c/\c<=4096):Cc 85 [.i k,.i c] [.i 0]:=by
 refine q85 rfl ?_;unfold f85;simp only[qxh]
 repeat (first|simp(disch:=omega)only[↓qXX])
 try rfl
def of1_c{k c:Int}{m:Mv}(hk:1<=k/\k<=4)(hc:-4096<=c/\c<=4096)(hm:m=ofM (k.toNat,c)):Cc 82 [.i k,.i c] (mvl m++[.i 0]):=by
 subst hm
 obtain rfl|rfl|rfl|rfl:k=1∨k=2∨k=3∨k=4:=by omega
 all_goals
  refine q82 rfl ?_;unfold f82;simp only[qxh]
  repeat (first|simp(disch:=omega)only[↓qXX]|refine af (lchk_c (by omega) (by omega)) ?_)
  simp[ofM]
def mlof_c{l:Ln}(hk:1<=l.1/\l.1<=4)(hc:-4096<=l.2/\l.2<=4096):Cc 82 [.i (Int.ofNat l.1),.i l.2] (mvl (ofM l)++[.i 0]):=
 of1_c (k:=Int.ofNat l.1) ⟨by show(1:Int)<=(l.1:Int);omega,by show(l.1:Int)<=4;omega⟩ hc rfl
def pchk_c{x y:Int}(h:-65536<=x/\x<=65536/\-65536<=y/\y<=65536):Cc 83 [.i x,.i y] [.i 0]:=by
 refine q83 rfl ?_;unfold f83;simp only[qxh]
 repeat (first|simp(disch:=omega)only[↓qXX])
 try rfl
def ptM(m:Mv)(x y:Int):Int×Int:=(mA m.1*x+mB m.1*y+2*m.2.1,mC m.1*x+mD m.1*y+2*m.2.2)
def vN{t:Nat}(ht:t<8){n x y:Int}(h:-n<=x/\x<=n/\-n<=y/\y<=n):-n<=mA t*x+mB t*y/\mA t*x+mB t*y<=n/\-n<=mC t*x+mD t*y/\mC t*x+mD t*y<=n:=by
 rcases t8 ht with rfl|rfl|rfl|rfl|rfl|rfl|rfl|rfl<;>simp only[mA,mB,mC,mD]<;>omega
def point_c{m:Mv}(hm:okM 16384 m){x y:Int}(h:-8000<=x/\x<=8000/\-8000<=y/\y<=8000):Cc 126 (mvl m++[.i x,.i y]) [.i (ptM m x y).1,.i (ptM m x y).2,.i 0]:=by
 have hr:=vN hm.1 h
 have hm2:=hm.2
 refine q126 rfl ?_;unfold f126;simp only[qxh]
 simp only[mvl,qaI,qaG]
 repeat (first|simp(disch:=omega)only[↓qXX]|refine af (sd hm (by omega)) ?_|refine af (pchk_c (by omega)) ?_|refine au (yS hm.1) ?_|refine au (uG hm.1) ?_|refine af (mof_c hm.1 (by omega)) ?_)
 rfl
def cchk_c{c:Cl}(h:-4096<=c.1/\c.1<=4096/\-4096<=c.2.1/\c.2.1<=4096/\c.2.2<4):Cc 97 (cll c) [.i 0]:=by
 have hq:(Int.ofNat c.2.2)<=3:=by show(c.2.2:Int)<=3;omega
 refine q97 rfl ?_;unfold f97;simp only[qxh]
 repeat (first|simp(disch:=omega)only[↓qXX])
 try rfl
def middle_c{x y q:Int}(h:-1000000<=x/\x<=1000000/\-1000000<=y/\y<=1000000):Cc 125 [.i x,.i y,.i q] [.i (2*x+1),.i (2*y+1)]:=by
 refine q125 rfl ?_;unfold f125;simp only[qxh]
 repeat (first|simp(disch:=omega)only[↓qXX])
 (try simp only[qaV,Lf.i.injEq,and_true,true_and]);(try omega)
def sdX(q:Nat):Int:=[0,1,0,-1].getD q 0
def sdY(q:Nat):Int:=[-1,0,1,0].getD q 0
def pick_q{q:Nat}(h:q<4):mE gl1 0 [(Int.ofNat q,17)] 2=some [.int .i64 (sdX q),.int .i64 (sdY q)]:=by
 obtain rfl|rfl|rfl|rfl:q=0∨q=1∨q=2∨q=3:=by omega
 all_goals kernel_rfl
def moved_c{m:Mv}(hm:okM 16384 m){c:Cl}(hc:-1000<=c.1/\c.1<=1000/\-1000<=c.2.1/\c.2.1<=1000/\c.2.2<4):Cc 98 (mvl m++cll c) (cll (aZ m c)):=by
 obtain⟨t,mx,my⟩:=m
 obtain⟨x,y,q⟩:=c
 have hm0:okM 16384 (t,0,0):=⟨hm.1,by simp,by simp,by simp,by simp,by simp⟩
 have hp1:=point_c (br hm (by omega)) (x:=2*x+1) (y:=2*y+1) (by simp only at hc;omega)
 have hp2:=point_c (br hm0 (by omega)) (x:=sdX q) (y:=sdY q) (by
  have hq:q<4:=hc.2.2.2.2
  obtain rfl|rfl|rfl|rfl:q=0∨q=1∨q=2∨q=3:=by omega
  all_goals simp[sdX,sdY])
 obtain⟨X,hX⟩ : ∃X,(ptM (t,mx,my) (2*x+1) (2*y+1)).1=X:=⟨_,rfl⟩
 obtain⟨Y,hY⟩ : ∃Y,(ptM (t,mx,my) (2*x+1) (2*y+1)).2=Y:=⟨_,rfl⟩
 obtain⟨U,hU⟩ : ∃U,(ptM (t,0,0) (sdX q) (sdY q)).1=U:=⟨_,rfl⟩
 obtain⟨V,hV⟩ : ∃V,(ptM (t,0,0) (sdX q) (sdY q)).2=V:=⟨_,rfl⟩
 rw[hX,hY]at hp1
 rw[hU,hV]at hp2
 have hm':=hm.2
 have ht:t<8:=hm.1
 have hq:q<4:=hc.2.2.2.2
 simp only at hm' hc
 refine q98 rfl ?_;unfold f98;simp only[qxh]
 simp only[mvl,cll,qaI,qaG]
 repeat (first|simp(disch:=omega)only[↓qXX]|refine af (middle_c (by omega)) ?_|refine au (yS hq) ?_|refine au (pick_q hq) ?_|refine af hp1 ?_|refine af hp2 ?_)
 rcases t8 ht with rfl|rfl|rfl|rfl|rfl|rfl|rfl|rfl
 all_goals obtain rfl|rfl|rfl|rfl:q=0∨q=1∨q=2∨q=3:=by omega
 all_goals
  simp[ptM,mA,mB,mC,mD,sdX,sdY]at hX hY hU hV
  subst hU hV
  repeat (first|simp(disch:=omega)only[↓qXX]|refine au (by simp only[eu,putL,offX,Int.reduceToNat,Int.reduceAdd,Int.reduceMul,Int.reduceMod,Int.reduceSub,Int.reduceNeg,Int.reduceDiv,Nat.reduceAdd,Nat.reduceMul,Nat.reduceLeDiff,qaE,qbp,↓reduceIte,qcd,qbj,qb3,qcu,qaI,qaG,qaN,qdZ,qb0,qcB,qdP];exact rfl) ?_|refine uD 6 ?_)
  try simp[aZ,mA,mB,mC,mD,qT]
  try omega
abbrev Crs:=Int×Int×Int
def encC(c:Crs):Tl:=[.int .i64 c.1,.int .u8 c.2.1,.int .u8 c.2.2]
def okC(c:Crs):Prop:=-9223372036854775808<=c.1/\c.1<=9223372036854775807/\0<=c.2.1/\c.2.1<=255/\0<=c.2.2/\c.2.2<=255
def isK(c:Crs):Bool:=decide (1<=c.2.2)&&decide (c.2.2<=3)
def isKind_c(k:Int):Cc 49 [.i k] [.b (decide (1<=k)&&decide (k<=3))]:=by
 refine q49 rfl ?_;unfold f49;simp only[qxh]
 by_cases h1:1<=k
 ·by_cases h2:k<=3
  ·simp(disch:=omega)only[↓qXX];simp[h1,h2]
  ·simp(disch:=omega)only[↓qXX];simp[h1,h2]
 ·simp(disch:=omega)only[↓qXX];simp[h1]
def chk1_c(c:Crs):Cc 48 [.i c.1,.i c.2.1,.i c.2.2] [.b (!isK c)]:=by
 refine q48 rfl ?_;unfold f48;simp only[qxh]
 repeat (first|simp(disch:=omega)only[↓qXX]|refine af (isKind_c c.2.2) ?_)
 simp[isK]
abbrev clo1:Value:=.func (.func 48) ⟨[]⟩ ⟨[]⟩
def good1:aT clo1=true:=rfl
abbrev _root_.TA:=List Crs
def index_c{h:HL}{x:Value}{l:TA}(hl:LsH h x 3 encC l)(hn:l.length<=4294967296):∃n:Int,aw cc ac 73 [.v x,.v clo1] (absH aa h) [.i n] (absH aa h)/\(0<=n↔∃c∈l,isK c=false):=by
 obtain⟨rs,h',h1,n,rfl,rfl,h2⟩:=x73 (K:=λrs h'=>∃n:Int,rs=[.i n]/\h'=h/\(0<=n↔∃c∈l,isK c=false)) (H:=h) (glsV hl.good (glsV good1 gls0)) (by
  unfold f73;simp only[qxh]
  refine p_x ?_
  refine bv hl ?_
  refine fm l.length (λj=>∀i,i<j->∀c,l[i]?=some c->isK c=true) rfl (qaS _) (λi hi=>absurd hi (qbX _)) ?_
  intro j hj hi self hself
  refine p_x ?_
  by_cases hlt:j<l.length
  ·have e1:Int.ofNat j<Int.ofNat l.length:=by show(j:Int)<l.length;omega
   rw[p_lss_t e1]
   refine p_x ?_
   obtain⟨c,hc⟩ : ∃c,l[j]?=some c:=⟨_,qau hlt⟩
   refine aQ hl rfl hc ?_
   unfold encC
   repeat (first|simp(disch:=omega)only[↓qXX]|refine iE (jS (chk1_c c _) rfl [.agg [.i .i64 c.1,.i .u8 c.2.1,.i .u8 c.2.2]] rfl rfl) ?_)
   cases hk:isK c with
   |true=>
    show P1.cond false _ _
    refine p_x ?_
    rw[p_add (by show -9223372036854775808<=(j:Int)+1;omega) (by show(j:Int)+1<=9223372036854775807;omega)]
    refine hself hlt λi hi' c' hc'=>?_
    rcases qaB i j with h|h
    ·exact hi i h c' hc'
    ·obtain rfl:i=j:=by omega
     rw[hc]at hc';cases hc';exact hk
   |false=>
    show P1.cond true _ _
    refine p_x ?_
    exact⟨_,rfl,by trivial,λ_=>⟨c,qad hc,hk⟩,λ_=>qaY j⟩
  ·have e1:Int.ofNat l.length<=Int.ofNat j:=by show(l.length:Int)<=j;omega
   rw[p_lss_f e1]
   refine p_x ?_
   refine⟨_,rfl,by trivial,λh=>by omega,λ⟨c,hc,hk⟩=>?_⟩
   obtain⟨i,hi'⟩:=qaW hc
   have hlt':i<l.length:=by
    rcases qaB i l.length with h|h
    ·exact h
    ·rw[qah h]at hi';cases hi'
   rw[hi i (by omega) c hi']at hk
   cases hk)
 exact⟨n,h1,h2⟩
def yI{h:HL}{x:Value}{l:TA}(hl:LsH h x 3 encC l)(hn:l.length<=4294967296):aw cc ac 47 [.v x,.v clo1] (absH aa h) [.b (!l.all isK)] (absH aa h):=by
 obtain⟨n,h1,h2⟩:=index_c hl hn
 obtain⟨rs,h',h3,rfl,rfl⟩:=x47 (K:=λrs h'=>rs=[.b (!l.all isK)]/\h'=h) (H:=h) (glsV hl.good (glsV good1 gls0)) (by
  unfold f47;simp only[qxh]
  repeat (first|simp(disch:=omega)only[↓qXX]|refine ai h1 ?_)
  cases hb:l.all isK with
  |true=>
   have:¬0<=n:=λh=>by
    obtain⟨c,hc,hk⟩:=h2.1 h
    rw[qab.1 hb c hc]at hk;cases hk
   simp(disch:=omega)only[↓qXX]
   trivial
  |false=>
   have:0<=n:=h2.2 (by
    obtain⟨c,hc,hk⟩:=List.all_eq_false.1 hb
    exact⟨c,hc,by simpa using hk⟩)
   simp(disch:=omega)only[↓qXX]
   trivial)
 exact h3
def nbr(w v c e:Nat):Tp:=
 match e,c%4 with
 |0,0=>if 0<c / 4 / w then some (c+2 - 4*w)else none
 |0,1=>if c / 4%w+1<w then some (c+6)else none
 |0,2=>if c / 4 / w+1<v then some (c+4*w - 2)else none
 |0,_=>if 0<c / 4%w then some (c - 6)else none
 |1,0=>some (c+1)
 |1,1=>some (c - 1)
 |1,2=>some (c+1)
 |1,_=>some (c - 1)
 |2,0=>some (c+3)
 |2,1=>some (c+1)
 |2,2=>some (c - 1)
 |2,_=>some (c - 3)
 |_,_=>none
def nameN(w v c e:Nat):TE:=match nbr w v c e with
 |some n=>[.i (.ofNat (min c n)),.i (.ofNat e),.i 0]
 |none=>[.i 0,.i 0,.i 7]
def cellN(w c:Nat):TE:=[.i (.ofNat (c / 4%w)),.i (.ofNat (c / 4 / w)),.i (.ofNat (c%4)),.i 0]
def tabName(w v:Nat):Bool:=(List.range (4*w*v)).all λc=>(List.range 3).all λe=>yT (nameN w v c e) (runF 60 (.f 50) [.i (.ofNat w),.i (.ofNat v),.i (.ofNat c),.i (.ofNat e)] .empty tell)
def tabCell(w v:Nat):Bool:=(List.range (4*w*v)).all λc=>yT (cellN w c) (runF 60 (.f 59) [.i (.ofNat w),.i (.ofNat v),.i (.ofNat c)] .empty tell)
def ao(w v:Nat):List (Nat×Nat):=(List.range (4*w*v)).flatMap λc=>(List.range 3).filterMap λe=>match nbr w v c e with
 |some n=>if c<n then some (c,e)else none
 |none=>none
def encU(u:Nat×Nat):Tl:=[.int .i64 (.ofNat u.1),.int .u8 (.ofNat u.2)]
def sS(w v:Nat):Bool:=match runF 60 (.f 10) [.i (.ofNat w),.i (.ofNat v)] .empty (λrs h=>match rs with
   | .v x :: r=>ans (eqLs r []&&isSl h x 2 (ao w v).length ((ao w v).flatMap encU))
   |_=>none)with
 |some []=>true
 |_=>false
def ltN(a b:Nat×Nat):Bool:=Nat.blt a.1 b.1||(Nat.beq a.1 b.1&&Nat.blt a.2 b.2)
def ascN:List (Nat×Nat)->Bool
 |a :: b :: l=>ltN a b&&ascN (b :: l)
 |_=>true
def tab5(w v:Nat):Bool:=tabName w v&&(tabCell w v&&(sS w v&&(ascN (ao w v)&&Nat.ble (ao w v).length 1000)))
def gW:∀w v:Nat,1<=w->w<=5->1<=v->v<=5->tab5 w v=true:=by
 have key:((List.range 5).all λw=>(List.range 5).all λv=>tab5 (w+1) (v+1))=true:=by kernel_rfl
 intro w v h1 h2 h3 h4
 have h5:=qab.1 key (w - 1) (qae.2 (by omega))
 have h6:=qab.1 h5 (v - 1) (qae.2 (by omega))
 have e1:w - 1+1=w:=by omega
 have e2:v - 1+1=v:=by omega
 rw[e1,e2]at h6
 exact h6
def nbr_ne{w v c e n:Nat}(hw:1<=w)(h:nbr w v c e=some n):n≠c:=by
 have hx:c / 4%w<=c / 4:=qd3 _ _
 have hy:c / 4 / w<=c / 4:=qdo _ _
 have hq:c%4=0∨c%4=1∨c%4=2∨c%4=3:=by omega
 rcases e with _|_|_|e<;>rcases hq with h1|h1|h1|h1<;>simp only[nbr,h1]at h<;>
  first
  |(split at h<;>first|(simp only[qaz]at h;omega)|(cases h;done))
  |(simp only[qaz]at h;omega)
  |(cases h;done)
def gM{w v:Nat}(h:tab5 w v=true):tabName w v=true/\tabCell w v=true/\sS w v=true/\ascN (ao w v)=true/\(ao w v).length<=1000:=by
 unfold tab5 at h
 simp only[qaa,qbb]at h
 exact h
def nameIn{w v:Nat}(ht:tab5 w v=true){c e:Nat}(hc:c<4*w*v)(he:e<3):Cc 50 [.i (.ofNat w),.i (.ofNat v),.i (.ofNat c),.i (.ofNat e)] (nameN w v c e):=by
 have h1:=qab.1 (gM ht).1 c (qae.2 hc)
 exact fW (n:=60) rfl (by kernel_rfl) rfl (qab.1 h1 e (qae.2 he))
def cellIn{w v:Nat}(ht:tab5 w v=true){c:Nat}(hc:c<4*w*v):Cc 59 [.i (.ofNat w),.i (.ofNat v),.i (.ofNat c)] (cellN w c):=
 fW (n:=60) rfl (by kernel_rfl) rfl (qab.1 (gM ht).2.1 c (qae.2 hc))
def valS(w v:Int):Prop:=1<=w/\1<=v/\w<=256/\v<=256/\w*v<=256
instance (w v : Int) : Decidable (valS w v) := by unfold valS; infer_instance
def mul_bd{w v a b:Int}(h:0<=w/\w<=a/\0<=v/\v<=b):0<=w*v/\w*v<=a*b:=
 ⟨Int.mul_nonneg h.1 h.2.2.1,Int.mul_le_mul h.2.1 h.2.2.2 h.2.2.1 (by omega)⟩
def shCheck(w v:Int):Cc 46 [.i w,.i v] [.i (if valS w v then 0 else 1)]:=by
 refine q46 rfl ?_;unfold f46;simp only[qxh]
 by_cases h1:1<=w
 ·by_cases h2:1<=v
  ·by_cases h3:w<=256
   ·by_cases h4:v<=256
    ·have hm:=mul_bd (w:=w) (v:=v) (a:=256) (b:=256) (by omega)
     by_cases h5:w*v<=256
     ·simp(disch:=omega)only[↓qXX];simp[valS,h1,h2,h3,h4,h5]
     ·simp(disch:=omega)only[↓qXX];simp[valS,h5]
    ·simp(disch:=omega)only[↓qXX];simp[valS,h4]
   ·simp(disch:=omega)only[↓qXX];simp[valS,h3]
  ·simp(disch:=omega)only[↓qXX];simp[valS,h2]
 ·simp(disch:=omega)only[↓qXX];simp[valS,h1]
def lR{w v:Int}(h:valS w v):Cc 46 [.i w,.i v] [.i 0]:=by
 have:=shCheck w v;rw[qd7 h]at this;exact this
def smS(w v:Int):Prop:=1<=w/\w<=5/\1<=v/\v<=5
def wq{w v:Int}(h:smS w v):valS w v:=by
 unfold smS at h;have:=mul_bd (w:=w) (v:=v) (a:=5) (b:=5) (by omega);unfold valS;omega
def sm4{w v:Int}(h:smS w v):4<=4*w*v/\4*w*v<=100:=by
 unfold smS at h
 have h1:=mul_bd (w:=4*w) (v:=v) (a:=20) (b:=5) (by omega)
 have h2:4*w<=4*w*v:=by
  have:=Int.mul_le_mul_of_nonneg_left h.2.2.1 (show 0<=4*w by omega)
  rw[Int.mul_one]at this;exact this
 omega
def has_c{w v:Int}(h:smS w v)(c:Int):Cc 91 [.i w,.i v,.i c] [.b (decide (0<=c)&&decide (c<4*w*v))]:=by
 have h4:=sm4 h
 unfold smS at h
 refine q91 rfl ?_;unfold f91;simp only[qxh]
 by_cases h1:0<=c
 ·by_cases h2:c<4*w*v
  ·simp(disch:=omega)only[↓qXX];simp[h1,h2]
  ·simp(disch:=omega)only[↓qXX];simp[h1,h2]
 ·simp(disch:=omega)only[↓qXX];simp[h1]
def zp{w v c:Int}(h:smS w v)(hc:¬(0<=c/\c<4*w*v)):Cc 59 [.i w,.i v,.i c] [.i 0,.i 0,.i 0,.i 7]:=by
 refine q59 rfl ?_;unfold f59;simp only[qxh]
 repeat (first|simp(disch:=omega)only[↓qXX]|refine af (lR (wq h)) ?_)
 have e:(decide (0<=c)&&decide (c<4*w*v))=false:=by simp;omega
 refine af (e▸has_c h c) ?_
 simp(disch:=omega)only[↓qXX,qbF]
def wp{w v c e:Int}(h:smS w v)(hc:¬(0<=c/\c<4*w*v)):Cc 74 [.i w,.i v,.i c,.i e] [.i 0,.i 7]:=by
 refine q74 rfl ?_;unfold f74;simp only[qxh]
 repeat (first|simp(disch:=omega)only[↓qXX]|refine af (zp h hc) ?_)
def zq{w v c e:Int}(h:smS w v)(hc:¬(0<=c/\c<4*w*v)):Cc 50 [.i w,.i v,.i c,.i e] [.i 0,.i 0,.i 7]:=by
 refine q50 rfl ?_;unfold f50;simp only[qxh]
 repeat (first|simp(disch:=omega)only[↓qXX]|refine af (wp h hc) ?_)
def tA{x y q:Int}(h:-4096<=x/\x<=4096/\-4096<=y/\y<=4096/\q<=3):Cc 97 [.i x,.i y,.i q] [.i 0]:=by
 refine q97 rfl ?_;unfold f97;simp only[qxh]
 simp(disch:=omega)only[↓qXX]
def pJ{x y q e:Int}(h:-4096<=x/\x<=4096/\-4096<=y/\y<=4096/\q<=3)(he:2<e):Cc 114 [.i x,.i y,.i q,.i e] [.i 0,.i 0,.i 0,.i 1]:=by
 refine q114 rfl ?_;unfold f114;simp only[qxh]
 repeat (first|simp(disch:=omega)only[↓qXX]|refine af (tA h) ?_)
def toNat2{w v:Int}(h:smS w v):∃a b:Nat,w = .ofNat a/\v = .ofNat b/\1<=a/\a<=5/\1<=b/\b<=5:=by
 unfold smS at h
 obtain⟨a,rfl⟩:=qbU (show 0<=w by omega)
 obtain⟨b,rfl⟩:=qbU (show 0<=v by omega)
 exact⟨a,b,rfl,rfl,by omega,by omega,by omega,by omega⟩
def lt_nat{a b c:Nat}(h:(c:Int)<4*(a:Int)*(b:Int)):c<4*a*b:=by
 have:(4*(a:Int)*(b:Int))=((4*a*b:Nat):Int):=by simp
 rw[this]at h;omega
def uZ{w v c e:Int}(h:smS w v)(hc:0<=c/\c<4*w*v)(he:2<e):Cc 74 [.i w,.i v,.i c,.i e] [.i 0,.i 1]:=by
 have h4:=sm4 h
 obtain⟨a,b,rfl,rfl,ha⟩:=toNat2 h
 obtain⟨k,rfl⟩:=qbU hc.1
 have hk:k<4*a*b:=lt_nat hc.2
 have hk2:4*a*b<=100:=by
  have:(4*(a:Int)*(b:Int))=((4*a*b:Nat):Int):=by simp
  have h5:=h4.2
  change 4*(a:Int)*(b:Int)<=100 at h5
  rw[this]at h5;omega
 refine q74 rfl ?_;unfold f74;simp only[qxh]
 refine p_x ?_
 refine af (cellIn (gW a b ha.1 ha.2.1 ha.2.2.1 ha.2.2.2) hk) ?_
 unfold cellN
 refine p_x ?_
 have h1:k / 4%a<=k / 4:=qd3 _ _
 have h2:k / 4 / a<=k / 4:=qdo _ _
 have h3:(0:Int)<=((k / 4 / a:Nat):Int):=qaY _
 have h5:(0:Int)<=((k / 4%a:Nat):Int):=qaY _
 refine af (pJ (x:=Int.ofNat (k / 4%a)) (y:=Int.ofNat (k / 4 / a)) (q:=Int.ofNat (k%4)) (by simp only[qar];omega) he) ?_
 simp(disch:=omega)only[↓qXX]
def wo{w v c e:Int}(h:smS w v)(hc:0<=c/\c<4*w*v)(he:2<e):Cc 50 [.i w,.i v,.i c,.i e] [.i 0,.i 0,.i 1]:=by
 refine q50 rfl ?_;unfold f50;simp only[qxh]
 repeat (first|simp(disch:=omega)only[↓qXX]|refine af (uZ h hc he) ?_)
def isUn(w v c e:Int):Bool:=decide (0<=c)&&decide (c<4*w*v)&&decide (e<=2)&&(match nbr w.toNat v.toNat c.toNat e.toNat with
 |some n=>Nat.blt c.toNat n
 |none=>false)
def name_c{w v c e:Int}(h:smS w v)(he:0<=e):∃a b r:Int,Cc 50 [.i w,.i v,.i c,.i e] [.i a,.i b,.i r]/\(isUn w v c e=true↔r=0/\a=c/\b=e):=by
 by_cases hc:0<=c/\c<4*w*v
 ·by_cases h2:e<=2
  ·obtain⟨a,b,rfl,rfl,ha⟩:=toNat2 h
   obtain⟨k,rfl⟩:=qbU hc.1
   obtain⟨j,rfl⟩:=qbU he
   have hk:k<4*a*b:=lt_nat hc.2
   have hn:=nameIn (gW a b ha.1 ha.2.1 ha.2.2.1 ha.2.2.2) hk (e:=j) (by omega)
   unfold nameN at hn
   cases e:nbr a b k j with
   |none=>
    rw[e]at hn
    refine⟨_,_,_,hn,?_⟩
    have:isUn (.ofNat a) (.ofNat b) (k:Int) (j:Int)=false:=by
     unfold isUn
     have e':nbr (Int.ofNat a).toNat (Int.ofNat b).toNat (k:Int).toNat (j:Int).toNat=none:=e
     rw[e'];simp
    rw[this]
    simp
   |some n=>
    rw[e]at hn
    refine⟨_,_,_,hn,?_⟩
    have hne:=nbr_ne ha.1 e
    have e':nbr (Int.ofNat a).toNat (Int.ofNat b).toNat (k:Int).toNat (j:Int).toNat=some n:=e
    unfold isUn
    rw[e']
    simp only[qaa,qd4,qaO,qcZ]
    constructor
    ·rintro⟨_,h3⟩
     exact⟨by trivial,by show((min k n:Nat):Int)=k;omega,by trivial⟩
    ·rintro⟨_,h3,_⟩
     have h3:((min k n:Nat):Int)=k:=h3
     exact⟨⟨⟨hc.1,hc.2⟩,h2⟩,by omega⟩
  ·refine⟨_,_,_,wo h hc (by omega),?_⟩
   have:isUn w v c e=false:=by unfold isUn;simp[h2]
   rw[this];simp
 ·refine⟨_,_,_,zq h hc,?_⟩
  have:isUn w v c e=false:=by
   unfold isUn
   have:(decide (0<=c)&&decide (c<4*w*v))=false:=by simp;omega
   rw[this];simp
  rw[this];simp
def xq{w v c e:Int}(h:isUn w v c e=true):0<=c/\c<4*w*v/\e<=2:=by
 unfold isUn at h
 simp only[qaa,qd4]at h
 exact⟨h.1.1.1,h.1.1.2,h.1.2⟩
def ltC(a b:Crs):Bool:=decide (a.1<b.1)||(decide (a.1=b.1)&&decide (a.2.1<b.2.1))
def ascC:TA->Bool
 |a :: b :: l=>ltC a b&&ascC (b :: l)
 |_=>true
def jR:∀ {l:TA},ascC l=true↔∀(i:Nat) a b,l[i]?=some a->l[i+1]?=some b->ltC a b=true
 | []=>by simp[ascC]
 | [a]=>by simp[ascC]
 |a :: b :: l=>by
  simp only[ascC,qaa]
  rw[jR (l:=b :: l)]
  constructor
  ·rintro⟨h1,h2⟩ i x y hx hy
   cases i with
   |zero=>
    simp only[qbo,qaz,qbV]at hx hy
    subst hx hy;exact h1
   |succ i=>exact h2 i x y (by simpa using hx) (by simpa using hy)
  ·intro h
   exact⟨h 0 a b rfl rfl,λi x y hx hy=>h (i+1) x y (by simpa using hx) (by simpa using hy)⟩
def unC(w v:Int)(c:Crs):Bool:=isUn w v c.1 c.2.1
def chkC(w v:Int)(l:TA):Int:=if l.all isK=false then 1 else if l.all (unC w v)=false then 7 else if ascC l=true then 0 else 6
def yv(c:Crs):Cc 51 [.i c.1,.i c.2.1,.i c.2.2] [.i c.1,.i c.2.1]:=by
 refine q51 rfl ?_;unfold f51;simp only[qxh]
 simp(disch:=omega)only[↓qXX]
def order_c{a b:Crs}(h:0<=a.1/\a.1<=1000/\0<=b.1/\b.1<=1000/\0<=a.2.1/\a.2.1<=255/\0<=b.2.1/\b.2.1<=255):∃d:Int,Cc 52 [.i a.1,.i a.2.1,.i b.1,.i b.2.1] [.i d]/\(d<0↔ltC a b=true):=by
 by_cases h1:a.1=b.1
 ·refine⟨a.2.1 - b.2.1,?_,by simp only[ltC,qaP,qaa,qd4];omega⟩
  refine q52 rfl ?_;unfold f52;simp only[qxh]
  simp(disch:=omega)only[↓qXX]
 ·refine⟨a.1 - b.1,?_,by simp only[ltC,qaP,qaa,qd4];omega⟩
  refine q52 rfl ?_;unfold f52;simp only[qxh]
  simp(disch:=omega)only[↓qXX]
def check_c{w v:Int}(hs:smS w v){h:HL}{x:Value}{l:TA}(hl:LsH h x 3 encC l)(hk:∀c∈l,okC c)(hn:l.length<=4294967296) :
  aw cc ac 19 [.i w,.i v,.v x] (absH aa h) [.i (chkC w v l)] (absH aa h):=by
 obtain⟨rs,h',h3,rfl,rfl⟩:=x19 (K:=λrs h'=>rs=[.i (chkC w v l)]/\h'=h) (H:=h) (glsI (glsI (glsV hl.good gls0))) (by
  unfold f19;simp only[qxh]
  repeat (first|simp(disch:=omega)only[↓qXX]|refine af (lR (wq hs)) ?_|refine ai (yI hl hn) ?_)
  cases hb:l.all isK with
  |false=>
   simp(disch:=omega)only[↓qXX,qbF]
   exact⟨by simp[chkC,hb],by trivial⟩
  |true=>
   simp(disch:=omega)only[↓qXX,qaF]
   refine bv hl ?_
   refine fm l.length (λj=>∀i,i<j->∀c,l[i]?=some c->unC w v c=true) rfl (qaS _) (λi hi=>absurd hi (qbX _)) ?_
   intro j hj hi self hself
   refine p_x ?_
   by_cases hlt:j<l.length
   ·rw[aU hlt]
    refine p_x ?_
    obtain⟨c,hc⟩:=aK hlt
    have hmem:=qad hc
    have hok:=hk c hmem
    unfold okC at hok
    have bad:unC w v c=false->chkC w v l=7:=λhu=>by
     have:l.all (unC w v)=false:=List.all_eq_false.2 ⟨c,hmem,by simp[hu]⟩
     simp[chkC,hb,this]
    refine aQ hl rfl hc ?_
    unfold encC
    refine p_x ?_
    obtain⟨a,b,r,hnm,hiff⟩:=name_c (c:=c.1) (e:=c.2.1) hs (by omega)
    refine af hnm ?_
    refine p_x ?_
    by_cases hr:r=0
    ·subst hr
     repeat (first|simp(disch:=omega)only[↓qXX]|refine af (yv c) ?_)
     by_cases hab:a=c.1/\b=c.2.1
     ·have hu:unC w v c=true:=hiff.2 ⟨rfl,hab.1,hab.2⟩
      simp(disch:=omega)only[↓qXX,qaF]
      rw[bB (by omega)]
      refine hself hlt λi hi' c' hc'=>?_
      rcases qaB i j with h|h
      ·exact hi i h c' hc'
      ·obtain rfl:i=j:=by omega
       rw[hc]at hc';cases hc';exact hu
     ·have hu:unC w v c=false:=by
       rw[←qaT];intro hu
       have:=hiff.1 hu
       exact hab ⟨this.2.1,this.2.2⟩
      rw[p_eqs2_f hab]
      simp(disch:=omega)only[↓qXX,qbF]
      exact⟨by rw[bad hu],by trivial⟩
    ·have hu:unC w v c=false:=by
      rw[←qaT];intro hu
      exact hr (hiff.1 hu).1
     refine p_x ?_
     exact⟨by rw[bad hu],by trivial⟩
   ·obtain rfl:j=l.length:=by omega
    rw[aX (qao _)]
    refine p_x ?_
    have hu:l.all (unC w v)=true:=qab.2 λc hc=>by
     obtain⟨i,hi'⟩:=qaW hc
     exact hi i (aM hi') c hi'
    refine fm (j0:=1) (max 1 l.length) (λj=>1<=j/\∀(i:Nat) a b,i+1<j->l[i]?=some a->l[i+1]?=some b->ltC a b=true) rfl (qcV _ _) ⟨qao _,λi a b hi=>by omega⟩ ?_
    intro j hj' ⟨h1,hi2⟩ self hself
    refine p_x ?_
    refine bv hl ?_
    by_cases hlt:j<l.length
    ·rw[aU hlt]
     refine p_x ?_
     rw[n_sub h1 (by omega)]
     obtain⟨c,hc⟩:=aK (l:=l) (i:=j - 1) (by omega)
     obtain⟨d,hd⟩:=aK hlt
     have hc1:=hk c (qad hc)
     have hd1:=hk d (qad hd)
     have hc2:=xq (qab.1 hu c (qad hc))
     have hd2:=xq (qab.1 hu d (qad hd))
     have h4:=sm4 hs
     unfold okC at hc1 hd1
     refine aQ hl rfl hc ?_
     unfold encC
     repeat (first|simp(disch:=omega)only[↓qXX]|refine af (yv c) ?_)
     refine aQ hl rfl hd ?_
     unfold encC
     repeat (first|simp(disch:=omega)only[↓qXX]|refine af (yv d) ?_)
     obtain⟨o,ho,hoi⟩:=order_c (a:=c) (b:=d) (by omega)
     refine af ho ?_
     refine p_x ?_
     by_cases hlo:o<0
     ·simp(disch:=omega)only[↓qXX]
      rw[bB (by omega)]
      refine hself (by omega) ⟨by omega,λi a b hi' ha hb'=>?_⟩
      rcases qaB (i+1) j with h|h
      ·exact hi2 i a b h ha hb'
      ·have e1:i=j - 1:=by omega
       have e2:i+1=j:=by omega
       rw[e2,hd]at hb'
       rw[e1,hc]at ha
       cases ha;cases hb'
       exact hoi.1 hlo
     ·have hna:ascC l=false:=by
       rw[←qaT,jR]
       intro hall
       have:=hall (j - 1) c d hc (by rw[show j - 1+1=j by omega];exact hd)
       exact hlo (hoi.2 this)
      refine p_x ?_
      exact⟨by simp[chkC,hb,hu,hna],by trivial⟩
    ·rw[aX (by omega)]
     refine p_x ?_
     have ha:ascC l=true:=jR.2 λi a b ha hb'=>hi2 i a b (by have:=aM hb';omega) ha hb'
     exact⟨by simp[chkC,hb,hu,ha],by trivial⟩)
 exact h3
end Go.Am
namespace Go.Am
namespace Sx
section
variable [Val] [Kno]
variable {C:Cfg} {Sg:Tc} {T:Tt} {α:Type}
def putE(h:HL)(id e:Nat)(enc:α->Tl)(l:List α):HL:=h.set id (.o (.cells (l.flatMap enc) e true))
def bW{h:HL}{id e:Nat}{enc:α->Tl}{l:List α}(hlt:id<h.length):(putE h id e enc l)[id]?=some (.o (.cells (l.flatMap enc) e true)):=by
 unfold putE
 rw[qaA hlt]
def xX{h:HL}{id e:Nat}{enc:α->Tl}{l l':List α}:(putE h id e enc l).set id (.o (.cells (l'.flatMap enc) e true))=putE h id e enc l':=by
 unfold putE
 rw[List.set_set]
def lI{h:HL}{id e cx:Nat}{enc:α->Tl}(henc:∀a,(enc a).length=e){l:List α}(hlt:id<h.length):LsH (putE h id e enc l) (.slice (some ⟨id,0,tag e⟩) l.length cx) e enc l:=by
 have hl:=aO (e:=e) (enc:=enc) (l:=l) λa _=>henc a
 exact⟨λa _=>henc a,hl,.inr ⟨id,0,cx,_,true,rfl,bW hlt,cut_all hl⟩⟩
def gu{e:Nat}{enc:α->Tl}(henc:∀a,(enc a).length=e):∀ {l:List α} {i:Nat} (a:α),i<l.length->(l.flatMap enc).take (i*e)++enc a++(l.flatMap enc).drop (i*e+e)=(l.set i a).flatMap enc
 | [],_,_,h=>by simp at h
 |b :: l,0,a,_=>by
  have hb:=henc b
  simp only[qb0,qcu,qaG,qaN,qcU,qby]
  rw[qct,qbs (by omega),qaG,show e - (enc b).length=0 by omega,qbj]
 |b :: l,i+1,a,h=>by
  have hb:=henc b
  have ih:=gu henc (l:=l) (i:=i) a (by simpa using h)
  simp only[List.set_cons_succ,qby]
  rw[←ih,qbz,qch,qdc,qct]
  rw[qaM (by omega),qbs (by omega),qaG]
  rw[show i*e+e - (enc b).length=i*e by omega,show i*e+e+e - (enc b).length=i*e+e by omega]
  simp[qaH]
def r_set{h:HL}{id e cx len:Nat}{enc:α->Tl}(henc:∀a,(enc a).length=e){l:List α}{i:Nat}{a:α}{n:Int}{new:Tl}{K:Ta}(hlt:id<h.length)(hn:n=Int.ofNat i)(hi:i<l.length)(hlen:l.length=len)(hnew:new=enc a)
  (hk:K [] (putE h id e enc (l.set i a))):(PH C Sg T).opt (idS e (.slice (some ⟨id,0,tag e⟩) len cx) n) (@hid _ ⟨λx=>(PH C Sg T).heap (.st x new) (putE h id e enc l) (@hid _ ⟨K⟩)⟩):=by
 subst hn hlen hnew
 have hx:idS e (.slice (some ⟨id,0,tag e⟩) l.length cx) (Int.ofNat i)=some (.pointer (some ⟨id,i*e,none⟩)):=by
  rw[xk]
  have hh:0<=Int.ofNat i/\Int.ofNat i<(l.length:Int):=⟨qaY i,by show(i:Int)<l.length;omega⟩
  simp only[qd7 hh]
  have:¬(tag e=some 1):=by simp[tag]
  simp only[qd8 this,qaN]
  rfl
 refine au hx ?_
 have hl:=aO (e:=e) (enc:=enc) (l:=l) λa _=>henc a
 have hle:i*e+e<=l.length*e:=by
  have:=qbm e (show i+1<=l.length by omega)
  rw[qbz,qch]at this;exact this
 have hrun:(Hp.st (.pointer (some ⟨id,i*e,none⟩)) (enc a)).run (getH T (putE h id e enc l)) (putE h id e enc l).length=some ([.set id (.cells ((l.set i a).flatMap enc) e true)],[]):=by
  show stP (.pointer (some ⟨id,i*e,none⟩)) (enc a) (getH T (putE h id e enc l)) (putE h id e enc l).length=_
  unfold stP
  simp only
  rw[cp (bW hlt)]
  simp only
  unfold splice
  rw[henc a,hl,qd7 hle,gu henc a hi]
  rfl
 refine cU hrun ?_
 show K [] (bS _ _)
 have:bS (putE h id e enc l) [.set id (.cells ((l.set i a).flatMap enc) e true)]=putE h id e enc (l.set i a):=xX
 rw[this]
 exact hk
end
end Sx
namespace Sx
section
variable [Val] [Kno]
variable {C:Cfg} {Sg:Tc} {T:Tt} {α:Type}
def dA{enc:α->Tl}{z:α}{n:Nat}:aV (enc z) n=(List.replicate n z).flatMap enc:=by
 unfold aV
 rw[List.flatMap_def,List.map_replicate]
def mq(z:α)(A:List α)(k:Nat):List α:=A.take k++List.replicate (A.length - k) z
def tR{z:α}{A:List α}{k:Nat}(h:k<=A.length):(mq z A k).length=A.length:=by
 unfold mq
 rw[qaC,qaL,qcA];omega
def fillZ_0{z:α}{A:List α}:mq z A 0=List.replicate A.length z:=by simp[mq]
def fillZ_all{z:α}{A:List α}:mq z A A.length=A:=by simp[mq]
def fillZ_set{z a:α}{A:List α}{k:Nat}(ha:A[k]?=some a):(mq z A k).set k a=mq z A (k+1):=by
 have hk:=aM ha
 unfold mq
 obtain⟨m,hm⟩ : ∃m,A.length - k=m+1:=⟨A.length - k - 1,by omega⟩
 have hl:(A.take k).length=k:=by rw[qaL];omega
 rw[hm,qbQ,qbA _ _ (by omega),hl,qbB,qcU,show A.length - (k+1)=m by omega]
 rw[show A.take (k+1)=A.take k++[a]by
  rw[qba,ha];rfl]
 simp
def newE(h:HL)(e:Nat)(enc:α->Tl)(l:List α):HL:=h++[.o (.cells (l.flatMap enc) e true)]
def sn{h:HL}{e:Nat}{enc:α->Tl}{l:List α}:putE (h++[.o .dead]) h.length e enc l=newE h e enc l:=by
 unfold putE newE
 rw[qbA _ _ (qao _),qbB];rfl
def newE_pre(h:HL)(e:Nat)(enc:α->Tl)(l:List α):Pre h (newE h e enc l):=⟨_,rfl⟩
def newE_ls{h:HL}{e cx:Nat}{enc:α->Tl}(henc:∀a,(enc a).length=e){l:List α}{n:Nat}(hn:n=l.length):LsH (newE h e enc l) (.slice (some ⟨h.length,0,tag e⟩) n cx) e enc l:=by
 subst hn
 rw[←sn]
 exact lI henc (by simp)
def r_setN{h:HL}{e cx len:Nat}{enc:α->Tl}(henc:∀a,(enc a).length=e){l:List α}{i:Nat}{a:α}{n:Int}{new:Tl}{K:Ta}(hn:n=Int.ofNat i)(hi:i<l.length)(hlen:l.length=len)(hnew:new=enc a)
  (hk:K [] (newE h e enc (l.set i a))):(PH C Sg T).opt (idS e (.slice (some ⟨h.length,0,tag e⟩) len cx) n) (@hid _ ⟨λx=>(PH C Sg T).heap (.st x new) (newE h e enc l) (@hid _ ⟨K⟩)⟩):=by
 rw[←sn]at hk
 rw[←sn]
 exact r_set henc (by simp) hn hi hlen hnew hk
def gD{n:Nat}(h:n<=1048576):mkOk (Int.ofNat n) (Int.ofNat n)=some ():=by
 unfold mkOk
 rw[qd7]
 exact⟨qaY n,qd1 _,by show(n:Int)<=1048576;omega⟩
def new_zeros{h:HL}{e:Nat}{enc:α->Tl}{z:α}{n:Nat}{v:Tl}(hv:v=enc z):h++[HO.o (.cells (aV v n) e true)]=newE h e enc (List.replicate n z):=by
 subst hv
 unfold newE
 rw[dA]
def cap_full{id n:Nat}{o:Nat}{sp:Tp}:capS (.slice (some ⟨id,o,sp⟩) n (n+1))=some (Int.ofNat n):=rfl
end
end Sx
namespace Sx
section
variable [Val] [Kno]
variable {C:Cfg} {Sg:Tc} {T:Tt} {α:Type}
def ed{l:List α}{i:Nat}{a:α}(h:l[i]?=some a):l.set i a=l:=by
 apply qaR
 intro k
 by_cases hk:i=k
 ·subst hk
  rw[qaA (aM h),h]
 ·rw[qai hk]
end
end Sx
namespace Sx
section
variable [Val] [Kno] {C:Cfg} {T:Tt}
abbrev Ku:=Int×Int
def kvU(k:Ku):Value:=.agg ⟨[.int .i64 k.1,.int .u8 k.2]⟩
def EntS(es:Th)(ks:List Ku):Prop:=es.map (·.key)=ks.map kvU/\∀e∈es,e.val = .bool true
abbrev kkU:TI:=[.i .i64,.i .u8]
def rG(a b:Int):eqZ a b=decide (a=b):=by
 have hb:∀m n:Nat,Nat.beq m n=decide (m=n):=λm n=>by
  by_cases h:m=n
  ·subst h;simp
  ·rw[qd5 h]
   cases hq:Nat.beq m n with
   |true=>exact absurd (qac hq) h
   |false=>rfl
 cases a<;>cases b<;>simp[eqZ,hb]
 omega
def difK_kv(a b:Ku):difK kkU [.int .i64 a.1,.int .u8 a.2] [.int .i64 b.1,.int .u8 b.2]=some (decide (a=b)):=by
 have e1:dC .i64 .i64=true:=rfl
 have e2:dC .u8 .u8=true:=rfl
 obtain⟨a1,a2⟩:=a
 obtain⟨b1,b2⟩:=b
 simp only[difK,e1,e2,rG,qbY]
 by_cases h1:a1=b1
 ·by_cases h2:a2=b2
  ·simp[h1,h2]
  ·simp[h1,h2]
 ·simp[h1]
def rO(k:Ku):∀ {es:Th} {ks:List Ku} (i:Nat),EntS es ks->(k∉ks->jc kkU [.int .i64 k.1,.int .u8 k.2] es i=some none)/\(k∈ks->∃j e,jc kkU [.int .i64 k.1,.int .u8 k.2] es i=some (some (i+j))/\es[j]?=some e/\e.val = .bool true)
 | [],[],i,_=>⟨λ_=>rfl,λh=>by cases h⟩
 | [],_ :: _,i,h=>by have:=h.1;simp at this
 |_ :: _,[],i,h=>by have:=h.1;simp at this
 |e :: es,q :: ks,i,h=>by
  obtain⟨h1,h2⟩:=h
  simp only[qav,qaV]at h1
  obtain⟨ih1,ih2⟩:=rO k (i+1) (⟨h1.2,λx hx=>h2 x (qas _ hx)⟩ : EntS es ks)
  have hq:jc kkU [.int .i64 k.1,.int .u8 k.2] (e :: es) i=if k=q then some (some i)else jc kkU [.int .i64 k.1,.int .u8 k.2] es (i+1):=by
   simp only[jc,h1.1,kvU]
   rw[difK_kv]
   by_cases hk:k=q<;>simp[hk]
  rw[hq]
  by_cases hk:k=q
  ·subst hk
   refine⟨λhn=>absurd qay hn,λ_=>⟨0,e,by rw[qd7 rfl];rfl,rfl,h2 e qay⟩⟩
  ·rw[qd8 hk]
   refine⟨λhn=>ih1 λhm=>hn (qas _ hm),λhm=>?_⟩
   rcases qak.1 hm with hm|hm
   ·exact absurd hm hk
   ·obtain⟨j,e',g1,g2,g3⟩:=ih2 hm
    exact⟨j+1,e',by rw[g1];congr 2;omega,by simpa using g2,g3⟩
variable {kt:TP}
def keyF_u(h1:aggT C.P kt=some true)(h2:flatK C.P 10000 kt=some kkU)(k:Ku):keyF C.P kt (kvU k)=true:=by
 have e1:dC .i64 .i64=true:=rfl
 have e2:dC .u8 .u8=true:=rfl
 unfold keyF kvU
 simp only[h1,h2,jx,e1,e2,rG]
 simp
def vH(h1:aggT C.P kt=some true)(h2:flatK C.P 10000 kt=some kkU)(k:Ku){es:Th}{r:Tp}(hr:jc kkU [.int .i64 k.1,.int .u8 k.2] es 0=some r):pL C.P kt (kvU k) es=some r:=by
 unfold pL kvU
 simp only[h1,h2,mX,hr]
def lu_set(h1:aggT C.P kt=some true)(h2:flatK C.P 10000 kt=some kkU){h:HL}{id c:Nat}{es:Th}{ks:List Ku}(hm:h[id]?=some (.o (.map es c)))(he:EntS es ks)(k:Ku) :
  luG C kt false (.bool false) (.map (some id)) (kvU k) false (getH T h)=some [.bool (decide (k∈ks))]:=by
 unfold luG
 rw[keyF_u h1 h2]
 simp only[qaF,qaq,if_false]
 have hg:mapG (getH T h) id=some (es,c):=by
  unfold mapG
  rw[cp hm]
 rw[hg]
 simp only
 obtain⟨f1,f2⟩:=rO k 0 he
 by_cases hk:k∈ks
 ·obtain⟨j,e,g1,g2,g3⟩:=f2 hk
  rw[vH h1 h2 k g1]
  have hv:eD es (0+j)=some (.bool true):=by
   rw[qaN]
   unfold eD
   rw[g2]
   simp[g3]
  simp only[hv,qam]
  simp[eZ,hk]
 ·rw[vH h1 h2 k (f1 hk)]
  simp[eZ,hk]
def mu_set(h1:aggT C.P kt=some true)(h2:flatK C.P 10000 kt=some kkU){h:HL}{id c n:Nat}{es:Th}{ks:List Ku}(hm:h[id]?=some (.o (.map es c)))(he:EntS es ks){k:Ku}(hk:k∉ks) :
  muG C kt (.map (some id)) (kvU k) (.bool true) (getH T h) n=some ([.set id (.map (es++[{ key:=kvU k,val:=.bool true,born:=c }]) (c+1))],[]):=by
 unfold muG
 simp only
 rw[keyF_u h1 h2]
 simp only[qaF,qaq,if_false]
 have hg:mapG (getH T h) id=some (es,c):=by
  unfold mapG
  rw[cp hm]
 rw[hg]
 simp only
 rw[vH h1 h2 k ((rO k 0 he).1 hk)]
def EntS.push{es:Th}{ks:List Ku}(he:EntS es ks)(k:Ku)(c:Nat):EntS (es++[{ key:=kvU k,val:=.bool true,born:=c }]) (ks++[k]):=by
 refine⟨by simp[he.1],λe hm=>?_⟩
 rcases qaJ.1 hm with hm|hm
 ·exact he.2 e hm
 ·simp only[qaw]at hm
  subst hm;rfl
end
end Sx
end Go.Am
namespace Go.Am
open Sx Go.Proofs
def clN(w n:Nat):Cl:=(Int.ofNat (n / 4%w),Int.ofNat (n / 4 / w),n%4)
def rkN(w n:Nat):Nat:=10*(n / 4%w+n / 4 / w)+(if n / 4 / w=0/\n / 4%w≠0 then [1,2,1,0]else [0,1,2,1]).getD (n%4) 0
def xB(w v c e:Nat):TE:=match nbr w v c e with
 |some n=>[.i (.ofNat n),.i 0]
 |none=>[.i 0,.i 7]
def tabNb(w v:Nat):Bool:=(List.range (4*w*v)).all λc=>(List.range 3).all λe=>vi 74 [.i (.ofNat w),.i (.ofNat v),.i (.ofNat c),.i (.ofNat e)] (xB w v c e)
def tabLn(w v:Nat):Bool:=(ao w v).all λu=>vi 90 [.i (.ofNat w),.i (.ofNat v),.i (.ofNat u.1),.i (.ofNat u.2)] [.i (.ofNat (lnC3 (clN w u.1) u.2).1),.i (lnC3 (clN w u.1) u.2).2,.i 0]
def eqLn(a b:Ln):Bool:=Nat.beq a.1 b.1&&decide (a.2=b.2)
def eqLn_iff{a b:Ln}:eqLn a b=true↔a=b:=by
 unfold eqLn
 rw[qaa,qd4,qdt]
 exact⟨λh=>⟨qac h.1,h.2⟩,λh=>⟨by rw[h.1];exact qbR _,h.2⟩⟩
def eqCl(a b:Cl):Bool:=decide (a.1=b.1)&&(decide (a.2.1=b.2.1)&&Nat.beq a.2.2 b.2.2)
def eqCl_iff{a b:Cl}:eqCl a b=true↔a=b:=by
 unfold eqCl
 rw[qaa,qaa,qd4,qd4,qdt,qdt]
 exact⟨λh=>⟨h.1,h.2.1,qac h.2.2⟩,λh=>⟨h.1,h.2.1,by rw[h.2.2];exact qbR _⟩⟩
def nbT(w v c e:Nat):Bool:=match nbr w v c e with
 |some n=>Nat.blt n (4*w*v)&&((match nbr w v n e with
  |some m=>Nat.beq m c
  |none=>false)&&(eqLn (lnC3 (clN w c) e) (lnC3 (clN w n) e)&&(eqCl (clN w n) (nbC (clN w c) e) && !Nat.beq n c)))
 |none=>true
def lnRng(w c e:Nat):Bool:=Nat.ble 1 (lnC3 (clN w c) e).1&&(Nat.ble (lnC3 (clN w c) e).1 4&&(decide (-10<=(lnC3 (clN w c) e).2)&&decide ((lnC3 (clN w c) e).2<=10)))
def wayT(w v n:Nat):Bool:=Nat.beq n 0||(List.range 3).any λe=>match nbr w v n e with
 |some m=>Nat.blt (rkN w m) (rkN w n)
 |none=>false
def tabNet(w v:Nat):Bool:=(List.range (4*w*v)).all λc=>wayT w v c&&(List.range 3).all λe=>nbT w v c e&&lnRng w c e
def tab71(w v:Nat):Bool:=tabNb w v&&(tabLn w v&&tabNet w v)
def all71:∀w v:Nat,1<=w->w<=5->1<=v->v<=5->tab71 w v=true:=by
 have key:((List.range 5).all λw=>(List.range 5).all λv=>tab71 (w+1) (v+1))=true:=by kernel_rfl
 intro w v h1 h2 h3 h4
 have h5:=qab.1 key (w - 1) (qae.2 (by omega))
 have h6:=qab.1 h5 (v - 1) (qae.2 (by omega))
 rw[show w - 1+1=w by omega,show v - 1+1=v by omega]at h6
 exact h6
def Sh(w v:Nat):Prop:=1<=w/\w<=5/\1<=v/\v<=5
section
variable {w v:Nat}
def sQ(h:Sh w v):tabNb w v=true/\tabLn w v=true/\tabNet w v=true:=by
 have:=all71 w v h.1 h.2.1 h.2.2.1 h.2.2.2
 unfold tab71 at this
 simpa only[qaa]using this
def nb_c(h:Sh w v){c e:Nat}(hc:c<4*w*v)(he:e<3):Cc 74 [.i (.ofNat w),.i (.ofNat v),.i (.ofNat c),.i (.ofNat e)] (xB w v c e):=
 jL (qab.1 (qab.1 (sQ h).1 c (qae.2 hc)) e (qae.2 he)) rfl (by kernel_rfl) rfl
def ln_c(h:Sh w v){u e:Nat}(hu:(u,e)∈ao w v):Cc 90 [.i (.ofNat w),.i (.ofNat v),.i (.ofNat u),.i (.ofNat e)] [.i (.ofNat (lnC3 (clN w u) e).1),.i (lnC3 (clN w u) e).2,.i 0]:=
 jL (qab.1 (sQ h).2.1 (u,e) hu) rfl (by kernel_rfl) rfl
def net_ok(h:Sh w v){c:Nat}(hc:c<4*w*v):wayT w v c=true/\∀e,e<3->nbT w v c e=true/\lnRng w c e=true:=by
 have:=qab.1 (sQ h).2.2 c (qae.2 hc)
 rw[qaa]at this
 refine⟨this.1,λe he=>?_⟩
 have:=qab.1 this.2 e (qae.2 he)
 rwa [qaa]at this
def iB(h:Sh w v){c e n:Nat}(hc:c<4*w*v)(he:e<3)(hn:nbr w v c e=some n):n<4*w*v/\nbr w v n e=some c/\lnC3 (clN w c) e=lnC3 (clN w n) e/\clN w n=nbC (clN w c) e/\n≠c:=by
 have:=((net_ok h hc).2 e he).1
 unfold nbT at this
 rw[hn]at this
 simp only[qaa]at this
 obtain⟨h1,h2,h3,h4,h5⟩:=this
 refine⟨by simpa[qaO]using h1,?_,eqLn_iff.1 h3,eqCl_iff.1 h4,λe=>?_⟩
 ·split at h2
  next m hm=>
   rw[hm,qac h2]
  ·cases h2
 ·subst e
  rw[show Nat.beq n n=true from qbR n]at h5
  cases h5
def ln_ok(h:Sh w v){c e:Nat}(hc:c<4*w*v)(he:e<3):1<=(lnC3 (clN w c) e).1/\(lnC3 (clN w c) e).1<=4/\-10<=(lnC3 (clN w c) e).2/\(lnC3 (clN w c) e).2<=10:=by
 have:=((net_ok h hc).2 e he).2
 unfold lnRng at this
 simp only[qaa,qbb,qd4]at this
 exact this
def sj(h:Sh w v){P:Nat->Prop}(h0:P 0)(hs:∀c e n,c<4*w*v->e<3->nbr w v c e=some n->P c->P n):∀n,n<4*w*v->P n:=by
 have main:∀k n,n<4*w*v->rkN w n<k->P n:=by
  intro k
  induction k with
  |zero=>intro n _ hk;omega
  |succ k ih=>
   intro n hn hk
   have hw:=(net_ok h hn).1
   unfold wayT at hw
   rw[qaP]at hw
   rcases hw with hw|hw
   ·rw[qac hw];exact h0
   ·obtain⟨e,he,hm⟩:=qda.1 hw
    have he:=qae.1 he
    split at hm
    next m hnm=>
     rw[qaO]at hm
     obtain⟨g1,g2,_⟩:=iB h hn he hnm
     exact hs m e n g1 he g2 (ih m g1 (by omega))
    ·cases hm
 intro n hn
 exact main (rkN w n+1) n hn (by omega)
def qn{c e n:Nat}(hc:c<4*w*v)(he:e<3)(hn:nbr w v c e=some n)(hlt:c<n):(c,e)∈ao w v:=by
 unfold ao
 rw[qbn]
 refine⟨c,qae.2 hc,qa8.2 ⟨e,qae.2 he,?_⟩⟩
 simp[hn,hlt]
def si(h:Sh w v){c e n:Nat}(hc:c<4*w*v)(he:e<3)(hn:nbr w v c e=some n):(min c n,e)∈ao w v/\lnC3 (clN w (min c n)) e=lnC3 (clN w c) e:=by
 obtain⟨g1,g2,g3,_,g5⟩:=iB h hc he hn
 rcases qaB c n with hlt|hge
 ·rw[qbW (by omega)]
  exact⟨qn hc he hn hlt,rfl⟩
 ·rw[qcM hge]
  exact⟨qn g1 he g2 (by omega),g3.symm⟩
end
def cv(c:Crs):Ku:=(c.1,c.2.1)
def isCr(l:TA)(u e:Nat):Bool:=decide (((Int.ofNat u,Int.ofNat e):Ku)∈l.map cv)
def SetM(H:HL)(id:Nat)(l:TA):Prop:=∃es c,H[id]?=some (.o (.map es c))/\EntS es (l.map cv)
def yV{l:TA}(h:l.Pairwise λa b=>ltC a b=true):(l.map cv).Nodup:=by
 rw[List.Nodup,qc2]
 refine h.imp λ{a b} hab e=>?_
 unfold ltC at hab
 simp only[qaP,qaa,qd4]at hab
 unfold cv at e
 simp only[qbY]at e
 omega
def creased_c{H:HL}{w v:Int}{x:Value}{l:TA}(hl:LsH H x 3 encC l)(hn:(l.map cv).Nodup)(hb:l.length<=1000) :
  ∃G,aw cc ac 87 [.i w,.i v,.v x] (absH aa H) [.v (.map (some H.length))] (absH aa (H++[G]))/\SetM (H++[G]) H.length l:=by
 obtain⟨rs,h',h1,rfl,G,rfl,hS⟩:=x87 (K:=λrs h'=>rs=[.v (.map (some H.length))]/\∃G,h'=H++[G]/\SetM h' H.length l) (H:=H) (glsI (glsI (glsV hl.good gls0))) (by
  unfold f87;simp only[qxh]
  refine p_x ?_
  refine bv hl ?_
  refine p_x ?_
  refine bv hl ?_
  refine bz (σ:=HO) l.length (λj _=>[.i (Int.ofNat j)]) (λ_ G=>H++[G]) (λj G=>SetM (H++[G]) H.length (l.take j)) (j0:=0) (s0:=.o (.map [] 0)) rfl rfl (qaS _) ⟨[],0,by simp,rfl,λe h=>(by cases h)⟩ ?_
  rintro j G hj ⟨es,c,g1,g2⟩ self hself
  refine p_x ?_
  by_cases hlt:j<l.length
  ·rw[aU hlt]
   refine p_x ?_
   obtain⟨a,ha⟩:=aK hlt
   have hl':=hl.pre (h':=H++[G]) ⟨[G],rfl⟩
   refine aQ hl' rfl ha ?_
   unfold encC
   refine p_x ?_
   have hk:cv a∉(l.take j).map cv:=by
    intro hm
    rw[qcr]at hm
    have hnd:=hn
    have h3:(l.map cv)[j]?=some (cv a):=by rw[qan,ha];rfl
    have h4:l.map cv=(l.map cv).take j++cv a :: (l.map cv).drop (j+1):=by
     conv=>lhs;rw[←qbG j (l.map cv)]
     rw[qbq (by rw[qa2];exact hlt)]
     congr 2
     rw[qau (by rw[qa2];exact hlt)]at h3
     exact qap h3
    rw[h4,List.nodup_append]at hnd
    exact hnd.2.2 _ hm _ qay rfl
   refine cU (mu_set (C:=cc) (T:=aa) (n:=(H++[G]).length) (by kernel_rfl) (by kernel_rfl) g1 g2 hk) ?_
   rw[bB (by omega)]
   have e:bS (H++[G]) [.set H.length (.map (es++[{ key:=kvU (cv a),val:=.bool true,born:=c }]) (c+1))]=H++[.o (.map (es++[{ key:=kvU (cv a),val:=.bool true,born:=c }]) (c+1))]:=by
    show(H++[G]).set H.length _=_
    simp
   rw[e]
   refine hself _ hlt ⟨es++[{ key:=kvU (cv a),val:=.bool true,born:=c }],c+1,by simp,?_⟩
   have ht:(l.take (j+1)).map cv=(l.take j).map cv++[cv a]:=by
    rw[qba,ha,qbN];rfl
   rw[ht]
   exact g2.push _ _
  ·obtain rfl:j=l.length:=by omega
   rw[aX (qao _)]
   refine p_x ?_
   refine⟨by trivial,G,rfl,?_⟩
   rw[qbk]at g2
   exact⟨es,c,g1,g2⟩)
 exact⟨G,h1,hS⟩
def encM(m:Mv):Tl:=[.int .u8 (Int.ofNat m.1),.int .i64 m.2.1,.int .i64 m.2.2]
def bC(m:Mv):(encM m).length=3:=rfl
def acM(w:Nat)(l:TA)(g:Mv)(c n e:Nat):Mv:=if isCr l (min c n) e then aG (ofM (lnC3 (clN w (min c n)) e)) g else g
def acM_ok{w v:Nat}(h:Sh w v){l:TA}{c e n:Nat}(hc:c<4*w*v)(he:e<3)(hn:nbr w v c e=some n){k:Int}{g:Mv}(hg:okM k g)(hk:0<=k):okM (k+20) (acM w l g c n e):=by
 unfold acM
 obtain⟨_,h2⟩:=si h hc he hn
 split
 ·rw[h2]
  have hl:=ln_ok h hc he
  have:=cq (qw (n:=10) ⟨hl.2.2.1,hl.2.2.2⟩) hg
  exact br this (by omega)
 ·exact br hg (by omega)
def oO{h:HL}{p:Value}{cs:Tl}{K:Te}{n:Nat}(hp:Ptr h p cs)(hn:cs.length=n)(hk:K cs):P1.peek (.lg cc n p) h (@hid _ ⟨K⟩):=eG (hp.lg hn) hk
def uE{h:HL}{p:Value}{cs ds:Tl}{K:Te}{o n:Nat}(hp:Ptr h p cs)(hn:o+n<=cs.length)(hd:ds=(cs.drop o).take n)(hk:K ds) :
  P1.opt (fdP o p) (@hid _ ⟨λy=>P1.chk y (@hid _ ⟨P1.peek (.lg cc n y) h (@hid _ ⟨K⟩)⟩)⟩):=by
 subst hd
 obtain⟨q,h3,h4⟩:=hp.fd o n hn
 refine au h3 (aH h4.good (eG (h4.lg ?_) hk))
 rw[qaL,qbI];omega
abbrev _root_.TN:=List Mv
def across_c{w v:Nat}(hs:Sh w v){l:TA}{h:HL}{x pp pm po sl:Value}{mid:Nat}{G:TN}(hP:Ptr h pp [.int .i64 (.ofNat w),.int .i64 (.ofNat v),x])(hM:Ptr h pm [.map (some mid)])(hS:SetM h mid l)(hO:Ptr h po [sl])(hG:LsH h sl 3 encM G)
  {c e n:Nat} (hc:c<4*w*v) (he:e<3) (hn:nbr w v c e=some n) {g:Mv} (hg:G[c]?=some g) {k:Int} (hk:okM k g) (hk0:0<=k/\k<=16000) :
  aw cc ac 89 [.i (.ofNat c),.i (.ofNat e),.v pp,.v pm,.v po] (absH aa h) (mvl (acM w l g c n e)) (absH aa h):=by
 obtain⟨es,c0,m1,m2⟩:=hS
 have ht:=gW w v hs.1 hs.2.1 hs.2.2.1 hs.2.2.2
 obtain⟨hu,hln⟩:=si hs hc he hn
 have hlk:=ln_ok hs hc he
 rw[←hln]at hlk
 have hname:=nameIn ht hc he
 unfold nameN at hname
 rw[hn]at hname
 simp only at hname
 exact xK x89 (glsI (glsI (glsV hP.good (glsV hM.good (glsV hO.good gls0))))) (by
  unfold f89;simp only[qxh]
  repeat (first|simp(disch:=omega)only[↓qXX]|refine uE (ds:=[.int .i64 (.ofNat w),.int .i64 (.ofNat v)]) hP (by simp) rfl ?_|refine af hname ?_|refine oO hM rfl ?_|refine aH rfl ?_|refine eG (lu_set (C:=cc) (T:=aa) (by kernel_rfl) (by kernel_rfl) m1 m2 (Int.ofNat (min c n),Int.ofNat e)) ?_)
  unfold acM isCr
  by_cases hcr:((Int.ofNat (min c n),Int.ofNat e):Ku)∈l.map cv
  ·rw[qd6 hcr]
   repeat (first|simp(disch:=omega)only[↓qXX,qaF,if_true]|refine uE (ds:=[.int .i64 (.ofNat w),.int .i64 (.ofNat v)]) hP (by simp) rfl ?_|refine af (ln_c hs hu) ?_)
   refine af (mlof_c ⟨hlk.1,hlk.2.1⟩ ⟨by omega,by omega⟩) ?_
   simp only[mvl,qaI,qaG]
   repeat (first|simp(disch:=omega)only[↓qXX]|refine oO hO rfl ?_|refine aH hG.good ?_)
   refine aQ hG rfl hg ?_
   unfold encM
   refine p_x ?_
   refine af (then_c (qw (n:=10) ⟨hlk.2.2.1,hlk.2.2.2⟩) hk (by omega)) ?_
   simp only[mvl,qaI,qaG]
   simp(disch:=omega)only[↓qXX]
   trivial
  ·rw[qd5 hcr]
   repeat (first|simp(disch:=omega)only[↓qXX,qbF,qaq,if_false]|refine oO hO rfl ?_|refine aH hG.good ?_)
   refine aQ hG rfl hg ?_
   unfold encM
   simp(disch:=omega)only[↓qXX]
   trivial)
def tz{g:TQ}{sg:Sig}{cap:Tl}{ls rs:TE}{H H':Ts}{args:Tl}(hc:aw cc ac g ls H rs H')(hs:ac g=some sg)(xs:List S0)(h1:bQ xs sg.ps=true)(h2:bT xs=ls)(h3:ah xs=args++cap) :
  th cc (.func (.func g) ⟨[]⟩ ⟨cap⟩) args sg.rs H rs H':=by
 obtain⟨sg',xs',ys,c1,c2,c3,c4⟩:=hc
 rw[hs]at c1
 cases c1
 obtain⟨w1,_⟩:=cM c2.1 h1 (c2.2.1.trans h2.symm)
 rw[w1,h3]at c4
 exact⟨ys,c3,.inl ⟨g,⟨[]⟩,⟨cap⟩,rfl,by simpa using c4⟩⟩
def fA{α:Type}{e:Nat}{enc:α->Tl}(henc:∀a,(enc a).length=e){h:HL}{id cx len:Nat}{l:List α}{i:Nat}{a:α}{n:Int}{new:Tl}{K:Ta}(hg:h[id]?=some (.o (.cells (l.flatMap enc) e true)))(hn:n=Int.ofNat i)(hi:i<l.length)(hlen:l.length=len)(hnew:new=enc a)(hk:K [] (putE h id e enc (l.set i a))) :
  P1.opt (idS e (.slice (some ⟨id,0,tag e⟩) len cx) n) (@hid _ ⟨λx=>P1.heap (.st x new) h (@hid _ ⟨K⟩)⟩):=by
 have hp:putE h id e enc l=h:=ed hg
 have:=r_set (C:=cc) (Sg:=ac) (T:=aa) (h:=h) (id:=id) (cx:=cx) (len:=len) (l:=l) henc (aM hg) hn hi hlen hnew hk
 rw[hp]at this
 exact this
def cR{α:Type}{h:HL}{id e j:Nat}{enc:α->Tl}{l:List α}(hj:j≠id):(putE h id e enc l)[j]?=h[j]?:=by
 unfold putE
 rw[qai (qbE hj)]
def encN(n:Nat):Tl:=[.int .i64 (Int.ofNat n)]
def wT(n:Nat):(encN n).length=1:=rfl
def encT(t:Bool):Tl:=[.bool t]
def gr(t:Bool):(encT t).length=1:=rfl
def jX(q:Tz):(q.flatMap encN).length=q.length:=by
 rw[aO (e:=1) (enc:=encN) λa _=>wT a,qc3]
def WQ(b:Nat)(h:HL)(v:Value)(q:Tz):Prop:=∃id off cx vs,v = .slice (some ⟨id,off,tag 1⟩) q.length cx/\b<=id/\h[id]?=some (.o (.cells vs 1 true))/\cut vs off (q.length*1)=some (q.flatMap encN)/\(cx=0∨cx=q.length+1)
def WQ.ls{b:Nat}{h:HL}{v:Value}{q:Tz}(hw:WQ b h v q):LsH h v 1 encN q:=by
 obtain⟨id,off,cx,vs,rfl,h1,h2,h3,_⟩:=hw
 exact⟨λa _=>wT a,by rw[jX,qc3],.inr ⟨id,off,cx,vs,true,rfl,h2,h3⟩⟩
def WQ.good{b:Nat}{h:HL}{v:Value}{q:Tz}(hw:WQ b h v q):aT v=true:=hw.ls.good
def WQ.keep{b:Nat}{h h':HL}{v:Value}{q:Tz}(hw:WQ b h v q)(hk:∀(j:Nat) o,b<=j->h[j]?=some o->h'[j]?=some o):WQ b h' v q:=by
 obtain⟨id,off,cx,vs,h0,h1,h2,h3⟩:=hw
 exact⟨id,off,cx,vs,h0,h1,hk _ _ h1 h2,h3⟩
def r_tail{b:Nat}{h:HL}{v:Value}{a:Nat}{q:Tz}{K:Value->Prop}(hw:WQ b h v (a :: q))(hk:∀v',WQ b h v' q->aT v'=true->K v'):P1.opt (slS 1 v (some 1) none none) (@hid _ ⟨K⟩):=by
 obtain⟨id,off,cx,vs,rfl,h1,h2,h3,h4⟩:=hw
 have hr:slS 1 (.slice (some ⟨id,off,tag 1⟩) (a :: q).length cx) (some 1) none none=some (.slice (some ⟨id,off+1,tag 1⟩) q.length (cx - 1)):=by
  unfold slS
  have e1:¬(tag 1≠some 1/\tag 1≠tag 1):=by simp
  simp only[qd8 e1]
  have e2:(0:Int)<=(some (1:Int)).getD 0/\(some (1:Int)).getD 0<=(none:Tq).getD ((a :: q).length:Int)/\cO (a :: q).length cx none none:=by
   refine⟨by simp,?_,?_⟩
   ·simp only[qbh,qdI,qaE];omega
   ·unfold cO
    left;simp
  rw[qd7 e2]
  rw[eo,eo,eo]
  simp[bK]
 refine au hr (hk _ ⟨id,off+1,cx - 1,vs,rfl,h1,h2,?_,?_⟩ ?_)
 ·have:=vA (h3:cut vs off ((a :: q).length*1)=some _) (o:=1) (k:=q.length*1) (by simp only[qaE];omega)
  rw[this]
  simp only[qby,encN,qaI,qaG,qcd,qbj,qc3]
  rw[←jX q]
  congr 1
  exact qbk
 ·rcases h4 with h4|h4
  ·left;omega
  ·right;simp only[qaE]at h4;omega
 ·simp[aT,noLoc,bn,bP,bw,aY,aJ,tag]
def r_apQ{b:Nat}{h:HL}{v:Value}{q:Tz}{n m:Nat}{new:Tl}{K:Ta}(hw:WQ b h v q)(hbh:b<=h.length)(hm:m=h.length)(hnew:new=encN n)(hq:q.length<=1000)
  (hk:∀v' h',WQ b h' v' (q++[n])->aT v'=true->(∀(j:Nat) o,j<b->h[j]?=some o->h'[j]?=some o)->h.length<=h'.length->K [v'] h') :
  P1.heap (.ap cc 1 8 v (.slice (some ⟨m,0,some 11⟩) 1 2)) (h++[.o (.cells new 1 true)]) (@hid _ ⟨K⟩):=by
 subst hm hnew
 obtain⟨id,off,cx,vs,rfl,h1,h2,h3,h4⟩:=hw
 have hlt:=aM h2
 have hx:SlC (h++[HO.o (.cells (encN n) 1 true)]) (.slice (some ⟨h.length,0,tag 1⟩) 1 2) 1 1 (encN n):=⟨rfl,.inr ⟨h.length,0,2,encN n,true,rfl,by simp,Sx.cut_all rfl⟩⟩
 have hg:(h++[HO.o (.cells (encN n) 1 true)])[id]?=some (.o (.cells vs 1 true)):=by rw[qag hlt];exact h2
 have hsz:ca (q.length+1) 8=true:=by
  unfold ca
  rw[qb6 (by omega),qb6 (by omega)];rfl
 have gd:∀i,aT (.slice (some ⟨i,0,tag 1⟩) (q.length+1) 0)=true:=λi=>by simp[aT,noLoc,bn,bP,bw,aY,aJ,tag]
 have hcl:(q.flatMap encN++encN n)=(q++[n]).flatMap encN:=by simp
 have hlen:(q++[n]).length=q.length+1:=by simp
 rcases h4 with rfl|rfl
 ·have hrun:apG cc 1 8 (.slice (some ⟨id,off,tag 1⟩) q.length 0) (.slice (some ⟨h.length,0,tag 1⟩) 1 2) (getH aa (h++[HO.o (.cells (encN n) 1 true)])) (h++[HO.o (.cells (encN n) 1 true)]).length=some ([.set id .dead,.push (.cells (q.flatMap encN++encN n) 1 true)],[.slice (some ⟨(h++[HO.o (.cells (encN n) 1 true)]).length,0,tag 1⟩) (q.length+1) 0]):=by
   unfold apG
   rw[yf hx]
   simp only[ne_eq,not_true_eq_false,if_false]
   rw[cp hg]
   simp only[ne_eq,not_true_eq_false,if_false]
   rw[h3]
   simp only[qdB]
   rw[qd8 (by omega),qd7 hsz]
  refine cU (show(Hp.ap cc 1 8 (.slice (some ⟨id,off,tag 1⟩) q.length 0) (.slice (some ⟨h.length,0,tag 1⟩) 1 2)).run _ _=_ from hrun) ?_
  refine hk _ _ ⟨(h++[HO.o (.cells (encN n) 1 true)]).length,0,0,q.flatMap encN++encN n,by rw[hlen],by simp;omega,?_,?_,.inl rfl⟩ (gd _) (λj o hj ho=>?_) ?_
  ·show(((h++[HO.o (.cells (encN n) 1 true)]).set id (.o .dead))++[HO.o (.cells (q.flatMap encN++encN n) 1 true)])[_]?=_
   rw[qal (by simp)]
   simp
  ·rw[hcl,hlen]
   exact Sx.cut_all (by rw[jX,hlen,qc3])
  ·show(((h++[HO.o (.cells (encN n) 1 true)]).set id (.o .dead))++[HO.o (.cells (q.flatMap encN++encN n) 1 true)])[j]?=_
   have:=aM ho
   rw[qag (by simp;omega),qai (by omega),qag this]
   exact ho
  ·show h.length<=(((h++[HO.o (.cells (encN n) 1 true)]).set id (.o .dead))++[HO.o (.cells (q.flatMap encN++encN n) 1 true)]).length
   simp;omega
 ·have hrun:apG cc 1 8 (.slice (some ⟨id,off,tag 1⟩) q.length (q.length+1)) (.slice (some ⟨h.length,0,tag 1⟩) 1 2) (getH aa (h++[HO.o (.cells (encN n) 1 true)])) (h++[HO.o (.cells (encN n) 1 true)]).length=some ([.push (.cells (q.flatMap encN++encN n) 1 true)],[.slice (some ⟨(h++[HO.o (.cells (encN n) 1 true)]).length,0,tag 1⟩) (q.length+1) 0]):=by
   unfold apG
   rw[yf hx]
   simp only[ne_eq,not_true_eq_false,if_false]
   rw[cp hg]
   simp only[ne_eq,not_true_eq_false,if_false]
   rw[h3]
   simp only
   rw[qd8 (by omega),qd7 hsz]
  refine cU (show(Hp.ap cc 1 8 (.slice (some ⟨id,off,tag 1⟩) q.length (q.length+1)) (.slice (some ⟨h.length,0,tag 1⟩) 1 2)).run _ _=_ from hrun) ?_
  refine hk _ _ ⟨(h++[HO.o (.cells (encN n) 1 true)]).length,0,0,q.flatMap encN++encN n,by rw[hlen],by simp;omega,?_,?_,.inl rfl⟩ (gd _) (λj o hj ho=>?_) ?_
  ·show((h++[HO.o (.cells (encN n) 1 true)])++[HO.o (.cells (q.flatMap encN++encN n) 1 true)])[_]?=_
   rw[qal (by simp)]
   simp
  ·rw[hcl,hlen]
   exact Sx.cut_all (by rw[jX,hlen,qc3])
  ·show((h++[HO.o (.cells (encN n) 1 true)])++[HO.o (.cells (q.flatMap encN++encN n) 1 true)])[j]?=_
   have:=aM ho
   rw[qag (by simp;omega),qag this]
   exact ho
  ·show h.length<=((h++[HO.o (.cells (encN n) 1 true)])++[HO.o (.cells (q.flatMap encN++encN n) 1 true)]).length
   simp
abbrev _root_.Tx:=List Bool
structure RS(H h:HL)(w v:Nat)(x:Value)(l:TA)(A:TN)(B:Tx):Prop where
 pre:Pre H h
 len:H.length+6<=h.length
 p:h[H.length]?=some (.o (.cells [.int .i64 (.ofNat w),.int .i64 (.ofNat v),x] 3 true))
 mp:SetM h (H.length+1) l
 mv:h[H.length+2]?=some (.o (.cells [.map (some (H.length+1))] 1 true))
 ol:h[H.length+3]?=some (.o (.cells (A.flatMap encM) 3 true))
 ov:h[H.length+4]?=some (.o (.cells [.slice (some ⟨H.length+3,0,tag 3⟩) (4*w*v) (4*w*v+1)] 1 true))
 kn:h[H.length+5]?=some (.o (.cells (B.flatMap encT) 1 true))
 la:A.length=4*w*v
 lb:B.length=4*w*v
section
variable {H h:HL} {w v:Nat} {x:Value} {l:TA} {A:TN} {B:Tx}
abbrev ptrB(b:Nat):Value:=.pointer (some ⟨b,0,none⟩)
def fz{h:HL}{b e:Nat}{cs:Tl}(hb:h[b]?=some (.o (.cells cs e true))):Ptr h (ptrB b) cs:=⟨b,0,cs,e,true,rfl,hb,Sx.cut_all rfl⟩
def RS.lsA(hr:RS H h w v x l A B):LsH h (.slice (some ⟨H.length+3,0,tag 3⟩) (4*w*v) (4*w*v+1)) 3 encM A:=by
 have hl:=aO (e:=3) (enc:=encM) (l:=A) λa _=>bC a
 rw[←hr.la]
 exact⟨λa _=>bC a,hl,.inr ⟨_,0,_,_,true,rfl,hr.ol,Sx.cut_all hl⟩⟩
def RS.lsB(hr:RS H h w v x l A B):LsH h (.slice (some ⟨H.length+5,0,tag 1⟩) (4*w*v) (4*w*v+1)) 1 encT B:=by
 have hl:=aO (e:=1) (enc:=encT) (l:=B) λa _=>gr a
 rw[←hr.lb]
 exact⟨λa _=>gr a,hl,.inr ⟨_,0,_,_,true,rfl,hr.kn,Sx.cut_all hl⟩⟩
def RS.keep{h':HL}(hr:RS H h w v x l A B)(hk:∀(j:Nat) o,j<H.length+6->h[j]?=some o->h'[j]?=some o)(hl:h.length<=h'.length):RS H h' w v x l A B:=by
 obtain⟨es,c,m1,m2⟩:=hr.mp
 refine⟨?_,qbt hr.len hl,hk _ _ (by omega) hr.p,⟨es,c,hk _ _ (by omega) m1,m2⟩,hk _ _ (by omega) hr.mv,hk _ _ (by omega) hr.ol,hk _ _ (by omega) hr.ov,hk _ _ (by omega) hr.kn,hr.la,hr.lb⟩
 have hpre:=hr.pre
 refine⟨h'.drop H.length,?_⟩
 apply qaR
 intro i
 rcases qaB i H.length with hi|hi
 ·rw[qag hi]
  have e1:H[i]?=some H[i]:=qau hi
  rw[e1]
  exact hk _ _ (by omega) (hpre.get e1)
 ·rw[qal hi,qa5,Nat.add_sub_cancel' hi]
def cQ{α:Type}{id e:Nat}{enc:α->Tl}{L:List α}(hp:Pre H h)(hid:H.length<=id):Pre H (putE h id e enc L):=hp.set hid _
def xW{α:Type}{h:HL}{id e:Nat}{enc:α->Tl}{L:List α}:(putE h id e enc L).length=h.length:=by simp[putE]
def RS.putA(hr:RS H h w v x l A B){A':TN}(ha:A'.length=A.length):RS H (putE h (H.length+3) 3 encM A') w v x l A' B:=by
 obtain⟨es,c,m1,m2⟩:=hr.mp
 have hl:=hr.len
 exact⟨cQ hr.pre (by omega),by rw[xW];exact hl,by rw[cR (by omega)];exact hr.p,⟨es,c,by rw[cR (by omega)];exact m1,m2⟩,by rw[cR (by omega)];exact hr.mv,bW (by omega),by rw[cR (by omega)];exact hr.ov,by rw[cR (by omega)];exact hr.kn,by rw[ha];exact hr.la,hr.lb⟩
def RS.putB(hr:RS H h w v x l A B){B':Tx}(hb:B'.length=B.length):RS H (putE h (H.length+5) 1 encT B') w v x l A B':=by
 obtain⟨es,c,m1,m2⟩:=hr.mp
 have hl:=hr.len
 exact⟨cQ hr.pre (by omega),by rw[xW];exact hl,by rw[cR (by omega)];exact hr.p,⟨es,c,by rw[cR (by omega)];exact m1,m2⟩,by rw[cR (by omega)];exact hr.mv,by rw[cR (by omega)];exact hr.ol,by rw[cR (by omega)];exact hr.ov,bW (by omega),hr.la,by rw[hb];exact hr.lb⟩
end
abbrev _root_.TO:=Nat->Mv
def eA(w v:Nat)(l:TA)(G:TO):Prop:=∀c e n,c<4*w*v->e<3->nbr w v c e=some n->G n=acM w l (G c) c n e
def cntT:Tx->Nat
 | []=>0
 |b :: l=>(if b then 1 else 0)+cntT l
def kS:∀l:List Bool,cntT l<=l.length
 | []=>qao _
 |b :: l=>by
  have:=kS l
  simp only[cntT,qaE]
  split<;>omega
def gj:∀ {l:Tx} {n:Nat},l[n]?=some false->cntT (l.set n true)=cntT l+1
 | [],n,h=>by simp at h
 |b :: l,0,h=>by
  simp only[qbo,qaz]at h
  subst h
  simp[cntT];omega
 |b :: l,n+1,h=>by
  simp only[qbV]at h
  have:=gj h
  simp only[List.set_cons_succ,cntT,this];omega
structure JS(w v:Nat)(l:TA)(A:TN)(B:Tx)(q:Tz)(D:Nat->Nat->Prop):Prop where
 a0:A[0]?=some idM
 b0:B[0]?=some true
 q1:∀c∈q,B[c]?=some true
 dn:∀c e n,D c e->c<4*w*v->e<3->nbr w v c e=some n->B[c]?=some true->c∉q->B[n]?=some true/\∃a,A[c]?=some a/\A[n]?=some (acM w l a c n e)
 bd:∀(c:Nat) a,B[c]?=some true->A[c]?=some a->okM (20*(cntT B:Int)) a
 un:∀G,eA w v l G->G 0=idM->∀(c:Nat) a,B[c]?=some true->A[c]?=some a->a=G c
structure GoodA(w v:Nat)(l:TA)(A:TN):Prop where
 len:A.length=4*w*v
 a0:A[0]?=some idM
 ok:∀a∈A,okM 2000 a
 cons:∀c e n a,c<4*w*v->e<3->nbr w v c e=some n->A[c]?=some a->A[n]?=some (acM w l a c n e)
section
variable {w v:Nat} {l:TA} {A:TN} {B:Tx} {q:Tz}
def JS.start(hs:Sh w v):JS w v l (List.replicate (4*w*v) idM) ((List.replicate (4*w*v) false).set 0 true) [0] λ_ _=>True:=by
 have hN:0<4*w*v:=by
  have h1:=hs.1
  have h2:=hs.2.2.1
  have:0<w*v:=Nat.mul_pos h1 h2
  rw[qd2];omega
 have kn:∀c,((List.replicate (4*w*v) false).set 0 true)[c]?=some true->c=0:=by
  intro c hc
  by_cases h0:c=0
  ·exact h0
  ·rw[qai (qbE h0),qaZ]at hc
   split at hc<;>cases hc
 refine⟨by rw[qaZ,qd7 hN],by rw[qaA (by simpa using hN)],λc hc=>?_,λc e n _ _ _ _ hb hq=>?_,λc a hb ha=>?_,λG hG h0 c a hb ha=>?_⟩
 ·simp only[qaw]at hc
  subst hc
  rw[qaA (by simpa using hN)]
 ·exact absurd (by rw[kn c hb];simp) hq
 ·have:=kn c hb
  subst this
  rw[qaZ,qd7 hN]at ha
  cases ha
  exact okM_id (by omega)
 ·have:=kn c hb
  subst this
  rw[qaZ,qd7 hN]at ha
  cases ha
  exact h0.symm
def JS.pop{c0:Nat}(h:JS w v l A B (c0 :: q) λ_ _=>True):JS w v l A B q λc e=>c=c0->e<0:=by
 refine⟨h.a0,h.b0,λc hc=>h.q1 c (qas _ hc),λc e n hd hc he hn hb hq=>?_,h.bd,h.un⟩
 by_cases hcc:c=c0
 ·have:=hd hcc;omega
 ·exact h.dn c e n trivial hc he hn hb λhm=>by
   rcases qak.1 hm with hm|hm
   ·exact hcc hm
   ·exact hq hm
def JS.skip{c0 j:Nat}(h:JS w v l A B q λc e=>c=c0->e<j)(hn:nbr w v c0 j=none):JS w v l A B q λc e=>c=c0->e<j+1:=by
 refine⟨h.a0,h.b0,h.q1,λc e n hd hc he hn' hb hq=>?_,h.bd,h.un⟩
 refine h.dn c e n (λhcc=>?_) hc he hn' hb hq
 have:=hd hcc
 rcases qaB e j with hlt|hge
 ·exact hlt
 ·obtain rfl:e=j:=by omega
  subst hcc
  rw[hn]at hn';cases hn'
def JS.seen{c0 j n:Nat}{a:Mv}(h:JS w v l A B q λc e=>c=c0->e<j)(hn:nbr w v c0 j=some n)(hb:B[n]?=some true)(ha:A[c0]?=some a)(hm:A[n]?=some (acM w l a c0 n j)):JS w v l A B q λc e=>c=c0->e<j+1:=by
 refine⟨h.a0,h.b0,h.q1,λc e n' hd hc he hn' hb' hq=>?_,h.bd,h.un⟩
 by_cases hcc:c=c0/\e=j
 ·obtain⟨rfl,rfl⟩:=hcc
  rw[hn]at hn';cases hn'
  exact⟨hb,a,ha,hm⟩
 ·exact h.dn c e n' (λhc'=>by have:=hd hc';have:e≠j:=λhe'=>hcc ⟨hc',he'⟩;omega) hc he hn' hb' hq
def JS.fresh(hs:Sh w v){c0 j n:Nat}{a:Mv}(h:JS w v l A B q λc e=>c=c0->e<j)(hla:A.length=4*w*v)(hlb:B.length=4*w*v)(hc0:c0<4*w*v)(hj:j<3)(hn:nbr w v c0 j=some n)(hb0:B[c0]?=some true)(hb:B[n]?=some false)(ha:A[c0]?=some a) :
  JS w v l (A.set n (acM w l a c0 n j)) (B.set n true) (q++[n]) λc e=>c=c0->e<j+1:=by
 obtain⟨g1,_,_,_,g5⟩:=iB hs hc0 hj hn
 have hBn:(B.set n true)[n]?=some true:=qaA (by omega)
 have hAn:(A.set n (acM w l a c0 n j))[n]?=some (acM w l a c0 n j):=qaA (by omega)
 have hB:∀c,c≠n->(B.set n true)[c]?=B[c]?:=λc hc=>qai (qbE hc)
 have hA:∀c,c≠n->(A.set n (acM w l a c0 n j))[c]?=A[c]?:=λc hc=>qai (qbE hc)
 have h0n:(0:Nat)≠n:=λe=>by have:=h.b0;rw[e,hb]at this;cases this
 have hok:okM (20*(cntT B:Int)) a:=h.bd c0 a hb0 ha
 refine⟨by rw[hA 0 h0n];exact h.a0,by rw[hB 0 h0n];exact h.b0,λc hc=>?_,λc e n' hd hc he hn' hbc hq=>?_,λc a' hbc hac=>?_,λG hG hG0 c a' hbc hac=>?_⟩
 ·rcases qaJ.1 hc with hc|hc
  ·have:=h.q1 c hc
   by_cases hcn:c=n
   ·rw[hcn];exact hBn
   ·rw[hB c hcn];exact this
  ·simp only[qaw]at hc
   rw[hc];exact hBn
 ·have hcn:c≠n:=λe=>hq (by rw[e];simp)
  have hcq:c∉q:=λhm=>hq (qaX _ hm)
  rw[hB c hcn]at hbc
  by_cases hcc:c=c0/\e=j
  ·obtain⟨rfl,rfl⟩:=hcc
   rw[hn]at hn';cases hn'
   exact⟨hBn,a,by rw[hA c hcn];exact ha,hAn⟩
  ·obtain⟨d1,a1,d2,d3⟩:=h.dn c e n' (λhc'=>by have:=hd hc';have:e≠j:=λhe'=>hcc ⟨hc',he'⟩;omega) hc he hn' hbc hcq
   have hnn:n'≠n:=λe'=>by rw[e',hb]at d1;cases d1
   exact⟨by rw[hB n' hnn];exact d1,a1,by rw[hA c hcn];exact d2,by rw[hA n' hnn];exact d3⟩
 ·rw[gj hb]
  by_cases hcn:c=n
  ·rw[hcn,hAn]at hac
   cases hac
   exact br (acM_ok hs hc0 hj hn hok (by omega)) (by omega)
  ·rw[hB c hcn]at hbc
   rw[hA c hcn]at hac
   exact br (h.bd c a' hbc hac) (by omega)
 ·by_cases hcn:c=n
  ·rw[hcn,hAn]at hac
   cases hac
   rw[hcn,hG c0 j n hc0 hj hn,←h.un G hG hG0 c0 a hb0 ha]
  ·rw[hB c hcn]at hbc
   rw[hA c hcn]at hac
   exact h.un G hG hG0 c a' hbc hac
def JS.done{c0:Nat}(h:JS w v l A B q λc e=>c=c0->e<3):JS w v l A B q λ_ _=>True:=
 ⟨h.a0,h.b0,h.q1,λc e n _ hc he hn hb hq=>h.dn c e n (λ_=>he) hc he hn hb hq,h.bd,h.un⟩
def sh_N(hs:Sh w v):0<4*w*v/\4*w*v<=100:=by
 have h1:1*1<=w*v:=qdx hs.1 hs.2.2.1
 have h2:w*v<=5*5:=qdx hs.2.1 hs.2.2.2
 rw[qd2];omega
def JS.good(hs:Sh w v)(h:JS w v l A B [] λ_ _=>True)(hla:A.length=4*w*v)(hlb:B.length=4*w*v):GoodA w v l A:=by
 have hall:∀n,n<4*w*v->B[n]?=some true:=sj hs h.b0 λc e n hc he hn hb=>(h.dn c e n trivial hc he hn hb (by simp)).1
 have hN:=sh_N hs
 have hcnt:=kS B
 refine⟨hla,h.a0,λa hm=>?_,λc e n a hc he hn ha=>?_⟩
 ·obtain⟨i,hi⟩:=qaW hm
  have:=aM hi
  exact br (h.bd i a (hall i (by omega)) hi) (by omega)
 ·obtain⟨_,a',g1,g2⟩:=h.dn c e n trivial hc he hn (hall c hc) (by simp)
  rw[ha]at g1;cases g1
  exact g2
def JS.tear(hs:Sh w v){c0 j n:Nat}{a b:Mv}{D:Nat->Nat->Prop}(h:JS w v l A B q D)(hc0:c0<4*w*v)(hj:j<3)(hn:nbr w v c0 j=some n)(hb0:B[c0]?=some true)(hb:B[n]?=some true)(ha:A[c0]?=some a)(hbn:A[n]?=some b)(hne:b≠acM w l a c0 n j):¬ ∃G,eA w v l G/\G 0=idM:=by
 rintro⟨G,hG,hG0⟩
 refine hne ?_
 rw[h.un G hG hG0 n b hb hbn,hG c0 j n hc0 hj hn,←h.un G hG hG0 c0 a hb0 ha]
end
def left(B:Tx)(q:Tz):Nat:=q.length+(B.length - cntT B)
def tabCnt:Bool:=(List.range 5).all λw=>(List.range 5).all λv=>vi 88 [.i (.ofNat (w+1)),.i (.ofNat (v+1))] [.i (.ofNat (4*(w+1)*(v+1)))]
def cnt_all:tabCnt=true:=by kernel_rfl
def cnt_c{w v:Nat}(h:Sh w v):Cc 88 [.i (.ofNat w),.i (.ofNat v)] [.i (.ofNat (4*w*v))]:=by
 have h5:=qab.1 cnt_all (w - 1) (qae.2 (by have:=h.2.1;have:=h.1;omega))
 have h6:=qab.1 h5 (v - 1) (qae.2 (by have:=h.2.2.1;have:=h.2.2.2;omega))
 rw[show w - 1+1=w by have:=h.1;omega,show v - 1+1=v by have:=h.2.2.1;omega]at h6
 exact jL h6 rfl (by kernel_rfl) rfl
def r_st1{h:HL}{b e:Nat}{vs new:Tl}{K:Ta}(hb:h[b]?=some (.o (.cells vs e true)))(hl:new.length=vs.length)(hk:K [] (h.set b (.o (.cells new e true)))):P1.heap (.st (ptrB b) new) h (@hid _ ⟨K⟩):=by
 have hrun:(Hp.st (ptrB b) new).run (getH aa h) h.length=some ([.set b (.cells new e true)],[]):=by
  show stP (ptrB b) new (getH aa h) h.length=_
  unfold stP
  simp only
  rw[cp hb]
  simp only
  unfold splice
  rw[qd7 (by omega)]
  simp[hl]
 exact cU hrun hk
def ny{h:HL}{a b:HO}:(h++[a]).set h.length b=h++[b]:=by simp
def bq{h:HL}{a:HO}:(h++[a])[h.length]?=some a:=by simp
def eqsM{a b:Mv}{K:Tn}:P1.eqs [(.i (Int.ofNat a.1),.i (Int.ofNat b.1)),(.i a.2.1,.i b.2.1),(.i a.2.2,.i b.2.2)] (@hid _ ⟨K⟩)=K (decide (a=b)):=by
 show K (ch _)=_
 have e:ch [(.i (Int.ofNat a.1),.i (Int.ofNat b.1)),(.i a.2.1,.i b.2.1),(.i a.2.2,.i b.2.2)]=decide (a=b):=by
  rw[qbM]
  simp[ch,gY,qdt]
  intro _ _
  omega
 rw[e]
def RelOk(w v:Nat)(l:TA)(H:HL)(rs:TE)(h':HL):Prop:=
 Pre H h'/\((∃A id,rs=[.v (.slice (some ⟨id,0,tag 3⟩) (4*w*v) (4*w*v+1)),.i 0]/\H.length<=id/\h'[id]?=some (.o (.cells (A.flatMap encM) 3 true))/\GoodA w v l A)∨
  (rs=[.v (.slice none 0 0),.i 11]/\¬ ∃G,eA w v l G/\G 0=idM))
def zj{w v:Nat}(hs:Sh w v){l:TA}(hk:(l.map cv).Nodup)(hl0:l.length<=1000){H:HL}{x:Value}(hl:LsH H x 3 encC l) :
  ∃rs h',aw cc ac 58 [.i (.ofNat w),.i (.ofNat v),.v x] (absH aa H) rs (absH aa h')/\RelOk w v l H rs h':=by
 have hN:=sh_N hs
 obtain⟨rs,h',h1,h2⟩:=x58 (K:=λrs h'=>RelOk w v l H rs h') (H:=H) (glsI (glsI (glsV hl.good gls0))) (by
  unfold f58;simp only[qxh]
  repeat (first|simp(disch:=omega)only[↓qXX]|refine oO (fz bq) rfl ?_|refine aH hl.good ?_)
  obtain⟨M,hcr,hSM⟩:=creased_c (w:=.ofNat w) (v:=.ofNat v) (hl.pre (h':=H++[HO.o (.cells [.int .i64 (.ofNat w),.int .i64 (.ofNat v),x] 3 true)]) ⟨_,rfl⟩) hk hl0
  rw[show(H++[HO.o (.cells [.int .i64 (.ofNat w),.int .i64 (.ofNat v),x] 3 true)]).length=H.length+1 by simp]at hcr hSM
  have k0:(H++[HO.o (.cells [.int .i64 (.ofNat w),.int .i64 (.ofNat v),x] 3 true)]++[M]).length=H.length+2:=by simp
  have kp:(H++[HO.o (.cells [.int .i64 (.ofNat w),.int .i64 (.ofNat v),x] 3 true)]++[M])[H.length]?=some (HO.o (.cells [.int .i64 (.ofNat w),.int .i64 (.ofNat v),x] 3 true)):=by simp
  have kH:Pre H (H++[HO.o (.cells [.int .i64 (.ofNat w),.int .i64 (.ofNat v),x] 3 true)]++[M]):=⟨_,qaH ..⟩
  refine ai hcr ?_
  clear hcr
  generalize H++[HO.o (.cells [.int .i64 (.ofNat w),.int .i64 (.ofNat v),x] 3 true)]++[M]=h2 at *
  refine p_x ?_
  refine r_st1 bq rfl ?_
  rw[ny]
  have m0:(h2++[HO.o (.cells [.map (some (H.length+1))] 1 true)]).length=H.length+3:=by simp[k0]
  have mp:=kp |> (Pre.get (b:=h2++[HO.o (.cells [.map (some (H.length+1))] 1 true)]) ⟨_,rfl⟩)
  have mv:(h2++[HO.o (.cells [.map (some (H.length+1))] 1 true)])[H.length+2]?=some (HO.o (.cells [.map (some (H.length+1))] 1 true)):=by rw[←k0];exact bq
  have mH:Pre H (h2++[HO.o (.cells [.map (some (H.length+1))] 1 true)]):=kH.app _
  have mS:SetM (h2++[HO.o (.cells [.map (some (H.length+1))] 1 true)]) (H.length+1) l:=by
   obtain⟨es,c,a1,a2⟩:=hSM
   exact⟨es,c,Pre.get ⟨_,rfl⟩ a1,a2⟩
  rw[k0]
  generalize h2++[HO.o (.cells [.map (some (H.length+1))] 1 true)]=h3 at *
  clear kp kH hSM k0
  repeat (first|simp(disch:=omega)only[↓qXX]|refine uE (p:=ptrB H.length) (cs:=[.int .i64 (.ofNat w),.int .i64 (.ofNat v),x]) (ds:=[.int .i64 (.ofNat w),.int .i64 (.ofNat v)]) (fz mp) (by simp) rfl ?_|refine af (cnt_c hs) ?_|refine au (gD (by omega)) ?_)
  rw[show(Int.ofNat (4*w*v)).toNat=4*w*v from rfl]
  have z0:HO.o (.cells (aV [.int .u8 0,.int .i64 0,.int .i64 0] (4*w*v)) 3 true)=HO.o (.cells ((List.replicate (4*w*v) idM).flatMap encM) 3 true):=by
   rw[←dA (enc:=encM) (z:=idM) (n:=4*w*v)]
   rfl
  rw[z0,m0]
  have n0:(h3++[HO.o (.cells ((List.replicate (4*w*v) idM).flatMap encM) 3 true)]).length=H.length+4:=by simp[m0]
  have np:=mp |> (Pre.get (b:=h3++[HO.o (.cells ((List.replicate (4*w*v) idM).flatMap encM) 3 true)]) ⟨_,rfl⟩)
  have nv:=mv |> (Pre.get (b:=h3++[HO.o (.cells ((List.replicate (4*w*v) idM).flatMap encM) 3 true)]) ⟨_,rfl⟩)
  have na:(h3++[HO.o (.cells ((List.replicate (4*w*v) idM).flatMap encM) 3 true)])[H.length+3]?=some (HO.o (.cells ((List.replicate (4*w*v) idM).flatMap encM) 3 true)):=by rw[←m0];exact bq
  have nH:Pre H (h3++[HO.o (.cells ((List.replicate (4*w*v) idM).flatMap encM) 3 true)]):=mH.app _
  have nS:SetM (h3++[HO.o (.cells ((List.replicate (4*w*v) idM).flatMap encM) 3 true)]) (H.length+1) l:=by
   obtain⟨es,c,a1,a2⟩:=mS
   exact⟨es,c,Pre.get ⟨_,rfl⟩ a1,a2⟩
  generalize h3++[HO.o (.cells ((List.replicate (4*w*v) idM).flatMap encM) 3 true)]=h4 at *
  clear mp mv mH mS m0
  refine r_st1 bq rfl ?_
  rw[ny]
  try simp(disch:=omega)only[↓qXX]
  refine oO (fz bq) rfl ?_
  refine p_x ?_
  refine aH (by simp[aT,noLoc,bn,bP,bw,aY,aJ]) ?_
  refine p_x ?_
  refine au (x:=Int.ofNat (4*w*v)) rfl ?_
  refine au (gD (by omega)) ?_
  refine p_x ?_
  rw[n0,show(Int.ofNat (4*w*v)).toNat=4*w*v from rfl]
  refine aH (by simp[aT,noLoc,bn,bP,bw,aY,aJ]) ?_
  have o0:(h4++[HO.o (.cells [.slice (some ⟨H.length+3,0,some 13⟩) (4*w*v) (4*w*v+1)] 1 true)]).length=H.length+5:=by simp[n0]
  have op:=np |> (Pre.get (b:=h4++[HO.o (.cells [.slice (some ⟨H.length+3,0,some 13⟩) (4*w*v) (4*w*v+1)] 1 true)]) ⟨_,rfl⟩)
  have om:=nv |> (Pre.get (b:=h4++[HO.o (.cells [.slice (some ⟨H.length+3,0,some 13⟩) (4*w*v) (4*w*v+1)] 1 true)]) ⟨_,rfl⟩)
  have oa:=na |> (Pre.get (b:=h4++[HO.o (.cells [.slice (some ⟨H.length+3,0,some 13⟩) (4*w*v) (4*w*v+1)] 1 true)]) ⟨_,rfl⟩)
  have ov:(h4++[HO.o (.cells [.slice (some ⟨H.length+3,0,some 13⟩) (4*w*v) (4*w*v+1)] 1 true)])[H.length+4]?=some (HO.o (.cells [.slice (some ⟨H.length+3,0,some 13⟩) (4*w*v) (4*w*v+1)] 1 true)):=by rw[←n0];exact bq
  have oH:Pre H (h4++[HO.o (.cells [.slice (some ⟨H.length+3,0,some 13⟩) (4*w*v) (4*w*v+1)] 1 true)]):=nH.app _
  have oS:SetM (h4++[HO.o (.cells [.slice (some ⟨H.length+3,0,some 13⟩) (4*w*v) (4*w*v+1)] 1 true)]) (H.length+1) l:=by
   obtain⟨es,c,a1,a2⟩:=nS
   exact⟨es,c,Pre.get ⟨_,rfl⟩ a1,a2⟩
  generalize h4++[HO.o (.cells [.slice (some ⟨H.length+3,0,some 13⟩) (4*w*v) (4*w*v+1)] 1 true)]=h5 at *
  clear np nv na nH nS n0
  have z1:HO.o (.cells (aV [.bool false] (4*w*v)) 1 true)=HO.o (.cells ((List.replicate (4*w*v) false).flatMap encT) 1 true):=by
   rw[←dA (enc:=encT) (z:=false) (n:=4*w*v)]
   rfl
  rw[z1,o0]
  have r0:RS H (h5++[HO.o (.cells ((List.replicate (4*w*v) false).flatMap encT) 1 true)]) w v x l (List.replicate (4*w*v) idM) (List.replicate (4*w*v) false):=by
   obtain⟨es,c,a1,a2⟩:=oS
   exact⟨oH.app _,by simp[o0],Pre.get ⟨_,rfl⟩ op,⟨es,c,Pre.get ⟨_,rfl⟩ a1,a2⟩,Pre.get ⟨_,rfl⟩ om,Pre.get ⟨_,rfl⟩ oa,Pre.get ⟨_,rfl⟩ ov,by rw[←o0];exact bq,by simp,by simp⟩
  generalize h5++[HO.o (.cells ((List.replicate (4*w*v) false).flatMap encT) 1 true)]=h6 at *
  clear op om oa ov oH oS o0
  refine fA (enc:=encT) (l:=List.replicate (4*w*v) false) (i:=0) (a:=true) gr r0.kn rfl (by simpa using hN.1) (by simp) rfl ?_
  have r1:=r0.putB (B':=(List.replicate (4*w*v) false).set 0 true) (by simp)
  generalize putE h6 (H.length+5) 1 encT ((List.replicate (4*w*v) false).set 0 true)=h7 at *
  try simp(disch:=omega)only[↓qXX]
  have r2:RS H (h7++[HO.o (.cells [.int .i64 0] 1 true)]) w v x l (List.replicate (4*w*v) idM) ((List.replicate (4*w*v) false).set 0 true):=r1.keep (λj o _ ho=>Pre.get ⟨_,rfl⟩ ho) (by simp)
  have hw0:WQ (H.length+6) (h7++[HO.o (.cells [.int .i64 0] 1 true)]) (.slice (some ⟨h7.length,0,some 11⟩) 1 2) [0]:=⟨h7.length,0,2,_,rfl,r1.len,bq,Sx.cut_all rfl,.inr rfl⟩
  have hj0:=JS.start (l:=l) hs
  have hc0:[0].length<=cntT ((List.replicate (4*w*v) false).set 0 true):=by
   rw[gj (by rw[qaZ,qd7 hN.1])]
   simp
  generalize h7++[HO.o (.cells [.int .i64 0] 1 true)]=h8 at *
  generalize Value.slice (some ⟨h7.length,0,some 11⟩) 1 2=v8 at *
  generalize List.replicate (4*w*v) idM=A0 at *
  generalize (List.replicate (4*w*v) false).set 0 true=B0 at *
  clear r0 r1
  refine cY (m:=left B0 [0]) (λm ls h'=>∃A B q vv,ls=[.v vv]/\RS H h' w v x l A B/\WQ (H.length+6) h' vv q/\JS w v l A B q (λ_ _=>True)/\q.length<=cntT B/\m=left B q) ⟨A0,B0,[0],v8,rfl,r2,hw0,hj0,hc0,rfl⟩ ?_
  clear r2 hw0 hj0 hc0
  rintro m ls h' ⟨A,B,q,vv,rfl,hr,hw,hj,hql,rfl⟩ self hself
  refine hidL ?_
  refine p_x ?_
  refine bv hw.ls ?_
  cases q with
  |nil=>
   rw[p_gtr_f (by show((List.length ([]:Tz):Nat):Int)<=0;simp)]
   repeat (first|simp(disch:=omega)only[↓qXX]|refine oO (fz hr.ov) rfl ?_|refine aH hr.lsA.good ?_)
   exact⟨hr.pre,.inl ⟨A,H.length+3,rfl,by omega,hr.ol,hj.good hs hr.la hr.lb⟩⟩
  |cons c0 q=>
   rw[p_gtr_t (by show(0:Int)<((List.length (c0 :: q):Nat):Int);simp only[qaE];omega)]
   refine p_x ?_
   refine aQ hw.ls (i:=0) rfl rfl ?_
   unfold encN
   refine p_x ?_
   refine r_tail hw ?_
   intro v1 hw1 hv1
   refine aH hv1 ?_
   have hb0:B[c0]?=some true:=hj.q1 c0 qay
   have hcN:c0<4*w*v:=by have:=aM hb0;have:=hr.lb;omega
   have hcl:=kS B
   refine bz (σ:=Value×HL×List Mv×List Bool×List Nat) 3 (λj s=>[.v s.1,.i (Int.ofNat j)]) (λ_ s=>s.2.1) (λj s=>RS H s.2.1 w v x l s.2.2.1 s.2.2.2.1/\WQ (H.length+6) s.2.1 s.1 s.2.2.2.2/\JS w v l s.2.2.1 s.2.2.2.1 s.2.2.2.2 (λc e=>c=c0->e<j)/\s.2.2.2.2.length<=cntT s.2.2.2.1/\left s.2.2.2.1 s.2.2.2.2=left B q/\s.2.2.2.1[c0]?=some true) (j0:=0) (s0:=(v1,h',A,B,q)) rfl rfl (by omega) ⟨hr,hw1,hj.pop,by show q.length<=cntT B;simp only[qaE]at hql;omega,rfl,hb0⟩ ?_
   clear hr hw hj hw1 hv1 hb0
   rintro j ⟨v2,h2',A2,B2,q2⟩ hj3 ⟨hr,hw,hj,hq2,hleft,hb0⟩ self2 hself2
   simp only at hr hw hj hq2 hleft hb0 hself2
   refine p_x ?_
   by_cases hlt:j<3
   case neg=>
    obtain rfl:j=3:=by omega
    rw[p_lss_f (by show(3:Int)<=((3:Nat):Int);omega)]
    refine p_x ?_
    refine hself (left B q) _ _ ?_ ⟨A2,B2,q2,v2,rfl,hr,hw,hj.done,hq2,hleft.symm⟩
    unfold left
    simp only[qaE];omega
   rw[p_lss_t (by show((j:Nat):Int)<3;omega)]
   refine p_x ?_
   have next:∀(v3:Value) (h3':HL) (A3:TN) (B3:Tx) (q3:Tz),RS H h3' w v x l A3 B3->WQ (H.length+6) h3' v3 q3->JS w v l A3 B3 q3 (λc e=>c=c0->e<j+1)->q3.length<=cntT B3->left B3 q3=left B q->B3[c0]?=some true->self2 [.v v3,.i (Int.ofNat j+1)] h3':=λv3 h3' A3 B3 q3 a1 a2 a3 a4 a5 a6=>hself2 (v3,h3',A3,B3,q3) hlt ⟨a1,a2,a3,a4,a5,a6⟩
   have hadd:∀K:Int->Prop,P1.ari .add .u8 (Int.ofNat j) 1 (@hid _ ⟨K⟩)=K (Int.ofNat j+1):=λK=>p_add8 (by show(0:Int)<=(j:Int)+1;omega) (by show(j:Int)+1<=255;omega)
   refine uE (p:=ptrB H.length) (cs:=[.int .i64 (.ofNat w),.int .i64 (.ofNat v),x]) (ds:=[.int .i64 (.ofNat w),.int .i64 (.ofNat v)]) (fz hr.p) (by simp) rfl ?_
   refine p_x ?_
   refine af (nb_c hs hcN hlt) ?_
   have hcl2:=kS B2
   have hlb2:=hr.lb
   cases hnb:nbr w v c0 j with
   |none=>
    unfold xB
    rw[hnb]
    refine p_x ?_
    rw[hadd]
    exact next _ _ _ _ _ hr hw (hj.skip hnb) hq2 hleft hb0
   |some n=>
    unfold xB
    rw[hnb]
    refine p_x ?_
    obtain⟨a,ha⟩:=aK (l:=A2) (i:=c0) (by rw[hr.la];exact hcN)
    have hok:=hj.bd c0 a hb0 ha
    have hac:=across_c hs (fz hr.p) (fz hr.mv) hr.mp (fz hr.ov) hr.lsA hcN hlt hnb ha hok (by omega)
    refine iE (tz (args:=[.int .i64 (Int.ofNat c0),.int .u8 (Int.ofNat j)]) hac rfl [.leaf (.i .i64 (Int.ofNat c0)),.leaf (.i .u8 (Int.ofNat j)),.leaf (.v (ptrB H.length)),.leaf (.v (ptrB (H.length+2))),.leaf (.v (ptrB (H.length+4)))] rfl rfl rfl) ?_
    have hnN:=(iB hs hcN hlt hnb).1
    have hnc:=(iB hs hcN hlt hnb).2.2.2.2
    generalize hm:acM w l a c0 n j=m at *
    simp only[mvl]
    refine p_x ?_
    obtain⟨t,ht⟩:=aK (l:=B2) (i:=n) (by rw[hr.lb];exact hnN)
    refine aQ hr.lsB rfl ht ?_
    unfold encT
    refine p_x ?_
    cases t with
    |true=>
     repeat (first|simp(disch:=omega)only[↓qXX,qaF]|refine oO (fz hr.ov) rfl ?_|refine aH hr.lsA.good ?_)
     obtain⟨b,hb⟩:=aK (l:=A2) (i:=n) (by rw[hr.la];exact hnN)
     refine aQ hr.lsA rfl hb ?_
     unfold encM
     refine p_x ?_
     rw[eqsM]
     by_cases hbm:b=m
     ·rw[qd6 hbm]
      simp(disch:=omega)only[↓qXX,qaF]
      rw[hadd]
      exact next _ _ _ _ _ hr hw (hj.seen hnb ht ha (by rw[hb,hbm,hm])) hq2 hleft hb0
     ·rw[qd5 hbm]
      simp(disch:=omega)only[↓qXX,qbF]
      exact⟨hr.pre,.inr ⟨rfl,hj.tear hs hcN hlt hnb hb0 ht ha hb (by rw[hm];exact hbm)⟩⟩
    |false=>
     repeat (first|simp(disch:=omega)only[↓qXX,qbF]|refine oO (fz hr.ov) rfl ?_|refine aH hr.lsA.good ?_)
     refine fA (enc:=encM) (l:=A2) (i:=n) (a:=m) bC hr.ol rfl (by rw[hr.la];exact hnN) hr.la rfl ?_
     have hrA:=hr.putA (A':=A2.set n m) (by simp)
     have hwA:=hw.keep (h':=putE h2' (H.length+3) 3 encM (A2.set n m)) (λj o hjb ho=>by rw[cR (by omega)];exact ho)
     generalize putE h2' (H.length+3) 3 encM (A2.set n m)=h3' at *
     try simp(disch:=omega)only[↓qXX]
     refine fA (enc:=encT) (l:=B2) (i:=n) (a:=true) gr hrA.kn rfl (by rw[hr.lb];exact hnN) hr.lb rfl ?_
     have hrB:=hrA.putB (B':=B2.set n true) (by simp)
     have hwB:=hwA.keep (h':=putE h3' (H.length+5) 1 encT (B2.set n true)) (λj o hjb ho=>by rw[cR (by omega)];exact ho)
     generalize putE h3' (H.length+5) 1 encT (B2.set n true)=h4' at *
     try simp(disch:=omega)only[↓qXX]
     refine r_apQ (n:=n) hwB hrB.len rfl rfl (by omega) ?_
     intro v5 h5' hw5 hv5 hk5 hl5
     have hr5:=hrB.keep hk5 hl5
     repeat (first|simp(disch:=omega)only[↓qXX]|refine aH hv5 ?_|refine oO (fz hr5.ov) rfl ?_|refine aH hr5.lsA.good ?_)
     refine aQ hr5.lsA (a:=m) rfl (qaA (by rw[hr.la];exact hnN)) ?_
     unfold encM
     simp(disch:=omega)only[↓qXX]
     try rw[eqsM,qd6 rfl]
     simp(disch:=omega)only[↓qXX,qaF]
     rw[hadd]
     refine next _ _ _ _ _ hr5 hw5 ?_ ?_ ?_ ?_
     ·rw[←hm]
      exact hj.fresh hs hr.la hr.lb hcN hlt hnb hb0 ht ha
     ·rw[gj ht];simp;omega
     ·rw[←hleft]
      have:=kS (B2.set n true)
      unfold left
      rw[gj ht]at this ⊢
      simp only[qaC,qaE,qbp,qbD]at this ⊢
      omega
     ·rw[qai hnc];exact hb0)
 exact⟨rs,h',h1,h2⟩
def aB(c:Cl):Tl:=[.int .i64 c.1,.int .i64 c.2.1,.int .u8 (Int.ofNat c.2.2)]
def bG(c:Cl):(aB c).length=3:=rfl
def fp{m:Mv}{n:Int}(hm:okM n m){c:Cl}{k:Int}(hc:-k<=c.1/\c.1<=k/\-k<=c.2.1/\c.2.1<=k):-(n+k+1)<=(aZ m c).1/\(aZ m c).1<=n+k+1/\-(n+k+1)<=(aZ m c).2.1/\(aZ m c).2.1<=n+k+1/\(aZ m c).2.2<4:=by
 have h1:=vN hm.1 hc
 have h2:=hm.2
 unfold aZ
 simp only
 refine⟨?_,?_,?_,?_,qT_lt⟩<;>split<;>omega
def vMv(m:Mv):Bool:=decide (-16384<=m.2.1/\m.2.1<=16384/\-16384<=m.2.2/\m.2.2<=16384)
def vCl(c:Cl):Bool:=decide (-4096<=c.1/\c.1<=4096/\-4096<=c.2.1/\c.2.1<=4096)
def vMv_ok{n:Int}{m:Mv}(h:okM n m)(hv:vMv m=true):okM 16384 m:=by
 unfold vMv at hv
 rw[qd4]at hv
 exact⟨h.1,hv.1,hv.2.1,hv.2.2.1,hv.2.2.2,h.2.2.2.2.2⟩
def vMI(t x y:Int):Bool:=decide (t<8/\(-16384<=x/\x<=16384)/\(-16384<=y/\y<=16384)/\(x+y)%2=0)
def pT{n:Int}:Cc 86 [.i n] [.b (!decide (-16384<=n/\n<=16384))]:=by
 refine q86 rfl ?_;unfold f86;simp only[qxh]
 refine p_x ?_
 by_cases h1:n < -16384
 ·rw[p_lss_t (show n < -16384 by omega)]
  refine p_x ?_
  rw[qd5 (by omega)]
  try rfl
 ·rw[p_lss_f (show(-16384:Int)<=n by omega)]
  refine p_x ?_
  by_cases h2:n<=16384
  ·rw[p_gtr_f (by omega)]
   refine p_x ?_
   rw[qd6 (by omega)]
   try rfl
  ·rw[p_gtr_t (by omega)]
   refine p_x ?_
   rw[qd5 (by omega)]
   try rfl
def xz{t x y:Int}(ht:0<=t/\t<=255):Cc 57 [.i t,.i x,.i y] [.i (if vMI t x y then 0 else 1)]:=by
 by_cases hv:vMI t x y=true
 ·rw[qd7 hv]
  unfold vMI at hv
  rw[qd4]at hv
  exact mchk_c ⟨ht.1,hv.1⟩ hv.2.1 hv.2.2.1 hv.2.2.2
 ·rw[qd8 hv]
  unfold vMI at hv
  rw[qd4]at hv
  refine q57 rfl ?_;unfold f57;simp only[qxh]
  refine p_x ?_
  by_cases h1:8<=t
  ·rw[p_geq_t h1]
   simp(disch:=omega)only[↓qXX]
   try rfl
  rw[p_geq_f (by omega)]
  repeat (first|simp(disch:=omega)only[↓qXX]|refine af pT ?_)
  by_cases h2:-16384<=x/\x<=16384
  case neg=>
   rw[qd5 h2]
   simp(disch:=omega)only[↓qXX,qbF]
   try rfl
  rw[qd6 h2]
  repeat (first|simp(disch:=omega)only[↓qXX,qaF]|refine af pT ?_)
  by_cases h3:-16384<=y/\y<=16384
  case neg=>
   rw[qd5 h3]
   simp(disch:=omega)only[↓qXX,qbF]
   try rfl
  rw[qd6 h3]
  simp(disch:=omega)only[↓qXX,qaF]
  have hp:(x+y)%2≠0:=λe=>hv ⟨by omega,h2,h3,e⟩
  rcases qcn 0 (x+y)with hs|hs
  ·repeat (first|simp(disch:=omega)only[↓qXX]|rw[p_rem_nn hs (by omega)])
   try rfl
  ·have h0:-(-(x+y)%2)≠0:=by omega
   repeat (first|simp(disch:=omega)only[↓qXX]|rw[p_rem_np hs (by omega)])
   try rfl
def limited_w{m:Mv}{n:Int}(h:okM n m)(hn:n<=100000):Cc 94 (mvl m) (if vMv m then mvl m++[.i 0]else [.i 0,.i 0,.i 0,.i 3]):=by
 refine q94 rfl ?_;unfold f94;simp only[qxh]
 repeat (first|simp(disch:=omega)only[↓qXX]|refine af (xz (by have:=h.1;show 0<=(m.1:Int)/\(m.1:Int)<=255;omega)) ?_)
 have e:vMI (Int.ofNat m.1) m.2.1 m.2.2=vMv m:=by
  have h1:=h.1
  have h2:=h.2.2.2.2.2
  unfold vMI vMv
  rw[decide_eq_decide]
  show((m.1:Int)<8/\_)↔_
  omega
 rw[e]
 cases vMv m with
 |true=>
  simp only[if_true]
  simp(disch:=omega)only[↓qXX]
  try rfl
 |false=>
  simp only[qaq,if_false]
  simp(disch:=omega)only[↓qXX]
  try rfl
def then_w{a b:Mv}(ha:okM 2000 a)(hb:okM 16384 b):Cc 60 (mvl a++mvl b) (if vMv (aG a b)then mvl (aG a b)++[.i 0]else [.i 0,.i 0,.i 0,.i 3]):=by
 have h0:=cq ha hb
 refine q60 rfl ?_;unfold f60;simp only[qxh]
 simp only[mvl,qaI,qaG]
 repeat (first|simp(disch:=omega)only[↓qXX]|refine af (sd ha (by omega)) ?_|refine af (sd hb (by omega)) ?_|refine au (yS hb.1) ?_|refine au (uG hb.1) ?_|refine af (mof_c hb.1 ⟨by have:=ha.2;omega,by have:=ha.2;omega,by have:=ha.2;omega,by have:=ha.2;omega⟩) ?_|refine au (yS ha.1) ?_|refine au (uG ha.1) ?_|refine af (thenT_c ha.1 hb.1) ?_|refine af (numT_c oD) ?_)
 have h1:=h0
 obtain⟨_,h2,h3,h4,h5,_⟩:=h1
 unfold aG at h2 h3 h4 h5
 simp only at h2 h3 h4 h5
 rw[p_add (by omega) (by omega),p_add (by omega) (by omega)]
 refine af (limited_w (m:=aG a b) h0 (by omega)) ?_
 cases vMv (aG a b)with
 |true=>
  simp only[if_true]
  simp only[mvl,qaI,qaG]
  simp(disch:=omega)only[↓qXX]
  try rfl
 |false=>
  simp only[qaq,if_false]
  simp(disch:=omega)only[↓qXX]
  try rfl
def wJ{c:Cl}(hq:c.2.2<4):Cc 97 (cll c) [.i (if vCl c then 0 else 1)]:=by
 by_cases hv:vCl c=true
 ·rw[qd7 hv]
  unfold vCl at hv
  rw[qd4]at hv
  exact cchk_c ⟨hv.1,hv.2.1,hv.2.2.1,hv.2.2.2,hq⟩
 ·rw[qd8 hv]
  unfold vCl at hv
  rw[qd4]at hv
  refine q97 rfl ?_;unfold f97;simp only[qxh]
  simp only[cll]
  refine p_x ?_
  by_cases h1:c.1 < -4096
  ·repeat (first|simp(disch:=omega)only[↓qXX])
   try rfl
  by_cases h2:4096<c.1
  ·repeat (first|simp(disch:=omega)only[↓qXX])
   try rfl
  by_cases h3:c.2.1 < -4096
  ·repeat (first|simp(disch:=omega)only[↓qXX])
   try rfl
  ·have h4:4096<c.2.1:=by omega
   repeat (first|simp(disch:=omega)only[↓qXX])
   try rfl
def move_w{m:Mv}(hm:okM 16384 m){c:Cl}(hc:-1000<=c.1/\c.1<=1000/\-1000<=c.2.1/\c.2.1<=1000/\c.2.2<4):Cc 61 (mvl m++cll c) (if vCl (aZ m c)then cll (aZ m c)++[.i 0]else [.i 0,.i 0,.i 0,.i 3]):=by
 have h1:=fp hm (k:=1000) ⟨hc.1,hc.2.1,hc.2.2.1,hc.2.2.2.1⟩
 refine q61 rfl ?_;unfold f61;simp only[qxh]
 simp only[mvl,cll,qaI,qaG]
 repeat (first|simp(disch:=omega)only[↓qXX]|refine af (sd hm (by omega)) ?_|refine af (cchk_c (c:=c) ⟨by omega,by omega,by omega,by omega,hc.2.2.2.2⟩) ?_)
 refine af (moved_c hm hc) ?_
 simp only[cll]
 refine p_x ?_
 refine af (wJ (c:=aZ m c) h1.2.2.2.2) ?_
 cases vCl (aZ m c)with
 |true=>
  simp only[if_true]
  simp(disch:=omega)only[↓qXX]
  try rfl
 |false=>
  simp only[qaq,if_false]
  simp(disch:=omega)only[↓qXX]
  try rfl
def GoodA.eq{w v:Nat}{l:TA}{A:TN}(hs:Sh w v)(hA:GoodA w v l A){G:TO}(hG:eA w v l G)(h0:G 0=idM):∀c,c<4*w*v->A[c]?=some (G c):=
 sj hs (by rw[h0];exact hA.a0) λc e n hc he hn h=>by rw[hG c e n hc he hn];exact hA.cons c e n _ hc he hn h
def plL(w v:Nat)(G:TO)(r:Mv):TN:=(List.range (4*w*v)).map λc=>aG (G c) r
abbrev _root_.TM:=List Cl
def imL(w v:Nat)(G:TO)(r:Mv):TM:=(List.range (4*w*v)).map λc=>aZ (aG (G c) r) (clN w c)
def oR{w v:Nat}{G:TO}{r:Mv}{c:Nat}(h:c<4*w*v):(plL w v G r)[c]?=some (aG (G c) r):=by
 unfold plL
 rw[qan,qbe h];rfl
def og{w v:Nat}{G:TO}{r:Mv}{c:Nat}(h:c<4*w*v):(imL w v G r)[c]?=some (aZ (aG (G c) r) (clN w c)):=by
 unfold imL
 rw[qan,qbe h];rfl
def take_set{α:Type}{L A:List α}{j:Nat}{a:α}(hL:L[j]?=some a)(hlen:L.length=A.length):(L.take j++A.drop j).set j a=L.take (j+1)++A.drop (j+1):=by
 have hj:=aM hL
 have h1:(L.take j).length=j:=by rw[qaL];omega
 rw[qbA _ _ (by omega),h1,qbB,qbq (by omega),qcU,qba,hL]
 simp
def mid_get{α:Type}{L A:List α}{j:Nat}{a:α}(hA:A[j]?=some a)(hlen:L.length=A.length):(L.take j++A.drop j)[j]?=some a:=by
 have hj:=aM hA
 rw[qal (by rw[qaL];omega),qaL,qbW (by omega),qbB,qa5,qcB]
 exact hA
def sf{α:Type}{L A:List α}{j:Nat}(hlen:L.length=A.length)(hj:j<=L.length):(L.take j++A.drop j).length=A.length:=by
 rw[qaC,qaL,qbI];omega
def dO{α:Type}{e cx n:Nat}{enc:α->Tl}(henc:∀a,(enc a).length=e){h:HL}{id:Nat}{L:List α}(hg:h[id]?=some (.o (.cells (L.flatMap enc) e true)))(hn:n=L.length):LsH h (.slice (some ⟨id,0,tag e⟩) n cx) e enc L:=by
 subst hn
 have hl:=aO (e:=e) (enc:=enc) (l:=L) λa _=>henc a
 exact⟨λa _=>henc a,hl,.inr ⟨id,0,cx,_,true,rfl,hg,Sx.cut_all hl⟩⟩
end Go.Am
end

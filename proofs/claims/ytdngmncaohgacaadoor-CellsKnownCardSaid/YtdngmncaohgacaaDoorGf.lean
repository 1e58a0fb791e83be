/-
  WHAT EACH FUNCTION DOES, BY PROGRAM.
-/
import Derived.Test.YtdngmncaohgacaaDoorGt
set_option linter.unusedSectionVars false
set_option linter.unusedSimpArgs false
set_option linter.unusedVariables false
set_option linter.constructorNameAsVariable false
set_option maxRecDepth 100000
namespace Go.Am
section
variable {R HT : Type} (A : Alg R HT)

/-- crimp/crimplaw05.SheetsNeighbour -/
noncomputable def f3 (ls : List Lf) (h : HT) (K : List Lf → HT → R) : R :=
A.unI ls (fun n6 l7 =>
A.unI l7 (fun n8 l9 =>
A.unI l9 (fun n10 l11 =>
A.unI l11 (fun n12 l13 =>
A.un0 l13 (
A.call 17 [(.i n6), (.i n8)] h (fun l14 h15 =>
A.unI l14 (fun n16 l17 =>
A.unI l17 (fun n18 l19 =>
A.un0 l19 (
A.call 18 [(.i n16), (.i n18), (.i n10), (.i n12)] h15 (fun l20 h21 =>
A.unI l20 (fun n22 l23 =>
A.unI l23 (fun n24 l25 =>
A.un0 l25 (
A.call 19 [(.i n16), (.i n18), (.i n10), (.i n12)] h21 (fun l26 h27 =>
A.unI l26 (fun n28 l29 =>
A.unI l29 (fun n30 l31 =>
A.unI l31 (fun n32 l33 =>
A.un0 l33 (
A.cmp .lss n10 (.ofNat 0) (fun t34 =>
A.cond t34 (
A.cmp .neq n24 (.ofNat 7) (fun t35 =>
A.cond t35 (
K [(.b false)] h27) (
A.cmp .neq n32 (.ofNat 7) (fun t36 =>
A.cond t36 (
K [(.b false)] h27) (
A.cmp .neq (.ofNat 7) (.ofNat 0) (fun t37 =>
A.cond t37 (
A.join (fun l38 h39 =>
A.unB l38 (fun t40 l41 =>
A.un0 l41 (
K [(.b t40)] h39))) (fun j42 =>
A.cmp .eql n22 (.ofNat 0) (fun t43 =>
A.cond t43 (
A.eqs [((.i n28), (.i (.ofNat 0))), ((.i n30), (.i (.ofNat 0)))] (fun t44 =>
A.cond t44 (
A.call 21 [] h27 (fun l45 h46 =>
A.unB l45 (fun t47 l48 =>
A.un0 l48 (
j42 [(.b t47)] h46)))) (
j42 [(.b false)] h27))) (
j42 [(.b false)] h27)))) (
A.call 18 [(.i n16), (.i n18), (.i n22), (.i n12)] h27 (fun l49 h50 =>
A.unI l49 (fun n51 l52 =>
A.unI l52 (fun n53 l54 =>
A.un0 l54 (
A.call 19 [(.i n16), (.i n18), (.i n22), (.i n12)] h50 (fun l55 h56 =>
A.unI l55 (fun n57 l58 =>
A.unI l58 (fun n59 l60 =>
A.unI l60 (fun n61 l62 =>
A.un0 l62 (
A.join (fun l63 h64 =>
A.unB l63 (fun t65 l66 =>
A.un0 l66 (
K [(.b t65)] h64))) (fun j67 =>
A.conv .i64 n12 (fun n68 =>
A.call 20 [(.i n16), (.i n18), (.i n10), (.i n68)] h56 (fun l69 h70 =>
A.unI l69 (fun n71 l72 =>
A.un0 l72 (
A.cmp .eql n22 n71 (fun t73 =>
A.cond t73 (
A.cmp .eql n53 (.ofNat 0) (fun t74 =>
A.cond t74 (
A.cmp .eql n51 n10 (fun t75 =>
A.cond t75 (
A.cmp .lss n22 n10 (fun t76 =>
A.sel t76 n22 n10 (fun n77 =>
A.call 22 [(.i n77), (.i n12)] h70 (fun l78 h79 =>
A.unI l78 (fun n80 l81 =>
A.unI l81 (fun n82 l83 =>
A.un0 l83 (
A.eqs [((.i n28), (.i n80)), ((.i n30), (.i n82))] (fun t84 =>
A.cond t84 (
A.cmp .eql n61 (.ofNat 0) (fun t85 =>
A.cond t85 (
A.eqs [((.i n57), (.i n28)), ((.i n59), (.i n30))] (fun t86 =>
A.cond t86 (
A.call 21 [] h79 (fun l87 h88 =>
A.unB l87 (fun t89 l90 =>
A.un0 l90 (
j67 [(.b t89)] h88)))) (
j67 [(.b false)] h79))) (
j67 [(.b false)] h79))) (
j67 [(.b false)] h79))))))))) (
j67 [(.b false)] h70))) (
j67 [(.b false)] h70))) (
j67 [(.b false)] h70))))))))))))))))))))))) (
A.ari .mul .i64 (.ofNat 4) n16 (fun n91 =>
A.ari .mul .i64 n91 n18 (fun n92 =>
A.cmp .geq n10 n92 (fun t93 =>
A.join (fun l94 h95 =>
A.unI l94 (fun n96 l97 =>
A.un0 l97 (
A.cmp .neq n24 n96 (fun t98 =>
A.cond t98 (
K [(.b false)] h95) (
A.cmp .neq n32 n96 (fun t99 =>
A.cond t99 (
K [(.b false)] h95) (
A.cmp .neq n96 (.ofNat 0) (fun t100 =>
A.cond t100 (
A.join (fun l101 h102 =>
A.unB l101 (fun t103 l104 =>
A.un0 l104 (
K [(.b t103)] h102))) (fun j105 =>
A.cmp .eql n22 (.ofNat 0) (fun t106 =>
A.cond t106 (
A.eqs [((.i n28), (.i (.ofNat 0))), ((.i n30), (.i (.ofNat 0)))] (fun t107 =>
A.cond t107 (
A.call 21 [] h95 (fun l108 h109 =>
A.unB l108 (fun t110 l111 =>
A.un0 l111 (
j105 [(.b t110)] h109)))) (
j105 [(.b false)] h95))) (
j105 [(.b false)] h95)))) (
A.call 18 [(.i n16), (.i n18), (.i n22), (.i n12)] h95 (fun l112 h113 =>
A.unI l112 (fun n114 l115 =>
A.unI l115 (fun n116 l117 =>
A.un0 l117 (
A.call 19 [(.i n16), (.i n18), (.i n22), (.i n12)] h113 (fun l118 h119 =>
A.unI l118 (fun n120 l121 =>
A.unI l121 (fun n122 l123 =>
A.unI l123 (fun n124 l125 =>
A.un0 l125 (
A.join (fun l126 h127 =>
A.unB l126 (fun t128 l129 =>
A.un0 l129 (
K [(.b t128)] h127))) (fun j130 =>
A.conv .i64 n12 (fun n131 =>
A.call 20 [(.i n16), (.i n18), (.i n10), (.i n131)] h119 (fun l132 h133 =>
A.unI l132 (fun n134 l135 =>
A.un0 l135 (
A.cmp .eql n22 n134 (fun t136 =>
A.cond t136 (
A.cmp .eql n116 (.ofNat 0) (fun t137 =>
A.cond t137 (
A.cmp .eql n114 n10 (fun t138 =>
A.cond t138 (
A.cmp .lss n22 n10 (fun t139 =>
A.sel t139 n22 n10 (fun n140 =>
A.call 22 [(.i n140), (.i n12)] h133 (fun l141 h142 =>
A.unI l141 (fun n143 l144 =>
A.unI l144 (fun n145 l146 =>
A.un0 l146 (
A.eqs [((.i n28), (.i n143)), ((.i n30), (.i n145))] (fun t147 =>
A.cond t147 (
A.cmp .eql n124 (.ofNat 0) (fun t148 =>
A.cond t148 (
A.eqs [((.i n120), (.i n28)), ((.i n122), (.i n30))] (fun t149 =>
A.cond t149 (
A.call 21 [] h142 (fun l150 h151 =>
A.unB l150 (fun t152 l153 =>
A.un0 l153 (
j130 [(.b t152)] h151)))) (
j130 [(.b false)] h142))) (
j130 [(.b false)] h142))) (
j130 [(.b false)] h142))))))))) (
j130 [(.b false)] h133))) (
j130 [(.b false)] h133))) (
j130 [(.b false)] h133))))))))))))))))))))))))) (fun j154 =>
A.cond t93 (
j154 [(.i (.ofNat 7))] h27) (
A.cmp .gtr n12 (.ofNat 2) (fun t155 =>
A.join (fun l156 h157 =>
A.unI l156 (fun n158 l159 =>
A.un0 l159 (
j154 [(.i n158)] h157))) (fun j160 =>
A.cond t155 (
j160 [(.i (.ofNat 1))] h27) (
A.conv .i64 n12 (fun n161 =>
A.call 20 [(.i n16), (.i n18), (.i n10), (.i n161)] h27 (fun l162 h163 =>
A.unI l162 (fun n164 l165 =>
A.un0 l165 (
A.cmp .lss n164 (.ofNat 0) (fun t166 =>
A.join (fun l167 h168 =>
A.unI l167 (fun n169 l170 =>
A.un0 l170 (
j160 [(.i n169)] h168))) (fun j171 =>
A.cond t166 (
j171 [(.i (.ofNat 7))] h163) (
j171 [(.i (.ofNat 0))] h163)))))))))))))))))))))))))))))))))))

/-- crimp/crimplaw05.SheetsUnits -/
noncomputable def f4 (ls : List Lf) (h : HT) (K : List Lf → HT → R) : R :=
A.unI ls (fun n6 l7 =>
A.unI l7 (fun n8 l9 =>
A.un0 l9 (
A.call 17 [(.i n6), (.i n8)] h (fun l10 h11 =>
A.unI l10 (fun n12 l13 =>
A.unI l13 (fun n14 l15 =>
A.un0 l15 (
A.call 23 [(.i n12), (.i n14)] h11 (fun l16 h17 =>
A.unV l16 (fun x18 l19 =>
A.unI l19 (fun n20 l21 =>
A.un0 l21 (
A.call 24 [(.i n12), (.i n14)] h17 (fun l22 h23 =>
A.unV l22 (fun x24 l25 =>
A.un0 l25 (
A.cmp .neq n20 (.ofNat 0) (fun t26 =>
A.cond t26 (
K [(.b false)] h23) (
A.opt (lenS x18) (fun x27 =>
A.opt (lenS x24) (fun x28 =>
A.cmp .neq x27 x28 (fun t29 =>
A.cond t29 (
K [(.b false)] h23) (
A.opt (capS x18) (fun x30 =>
A.opt (lenS x18) (fun x31 =>
A.cmp .neq x30 x31 (fun t32 =>
A.cond t32 (
K [(.b false)] h23) (
A.opt (lenS x18) (fun x33 =>
A.ari .mul .i64 (.ofNat 6) n12 (fun n34 =>
A.ari .mul .i64 n34 n14 (fun n35 =>
A.ari .sub .i64 n35 n12 (fun n36 =>
A.ari .sub .i64 n36 n14 (fun n37 =>
A.cmp .neq x33 n37 (fun t38 =>
A.cond t38 (
K [(.b false)] h23) (
A.new (.map [] 0) h23 (fun m39 h40 =>
A.loop (fun s41 l42 h43 =>
A.unI l42 (fun n44 l45 =>
A.un0 l45 (
A.opt (lenS x18) (fun x46 =>
A.cmp .lss n44 x46 (fun t47 =>
A.cond t47 (
A.opt (idS 2 x18 n44) (fun x48 =>
A.peek (ldP 2 x48) h43 (fun l49 =>
A.ucI .i64 l49 (fun n50 l51 =>
A.ucI .u8 l51 (fun n52 l53 =>
A.uc0 l53 (
A.call 25 [(.i n12), (.i n14), (.i n50), (.i n52)] h43 (fun l54 h55 =>
A.unI l54 (fun n56 l57 =>
A.unI l57 (fun n58 l59 =>
A.unI l59 (fun n60 l61 =>
A.unI l61 (fun n62 l63 =>
A.unI l63 (fun n64 l65 =>
A.un0 l65 (
A.opt (idS 2 x18 n44) (fun x66 =>
A.peek (ldP 2 x66) h55 (fun l67 =>
A.ucI .i64 l67 (fun n68 l69 =>
A.ucI .u8 l69 (fun n70 l71 =>
A.uc0 l71 (
A.call 26 [(.i n12), (.i n14), (.i n68), (.i n70)] h55 (fun l72 h73 =>
A.unI l72 (fun n74 l75 =>
A.unI l75 (fun n76 l77 =>
A.unI l77 (fun n78 l79 =>
A.un0 l79 (
A.opt (idS 2 x18 n44) (fun x80 =>
A.peek (ldP 2 x80) h73 (fun l81 =>
A.ucI .i64 l81 (fun n82 l83 =>
A.ucI .u8 l83 (fun n84 l85 =>
A.uc0 l85 (
A.opt (idS 2 x24 n44) (fun x86 =>
A.peek (ldP 2 x86) h73 (fun l87 =>
A.ucI .i64 l87 (fun n88 l89 =>
A.ucI .u8 l89 (fun n90 l91 =>
A.uc0 l91 (
A.eqs [((.i n82), (.i n88)), ((.i n84), (.i n90))] (fun t92 =>
A.cond (!t92) (
K [(.b false)] h73) (
A.cmp .neq n64 (.ofNat 0) (fun t93 =>
A.cond t93 (
K [(.b false)] h73) (
A.cmp .neq n78 (.ofNat 0) (fun t94 =>
A.cond t94 (
K [(.b false)] h73) (
A.opt (idS 2 x18 n44) (fun x95 =>
A.peek (ldP 2 x95) h73 (fun l96 =>
A.ucI .i64 l96 (fun n97 l98 =>
A.ucI .u8 l98 (fun n99 l100 =>
A.uc0 l100 (
A.call 27 [(.i n12), (.i n14), (.i n97), (.i n99)] h73 (fun l101 h102 =>
A.unI l101 (fun n103 l104 =>
A.unI l104 (fun n105 l106 =>
A.unI l106 (fun n107 l108 =>
A.unI l108 (fun n109 l110 =>
A.un0 l110 (
A.eqs [((.i n56), (.i n103)), ((.i n58), (.i n105)), ((.i n60), (.i n107)), ((.i n62), (.i n109))] (fun t111 =>
A.cond (!t111) (
K [(.b false)] h102) (
A.call 28 [(.i n74), (.i n76), (.i n56), (.i n58)] h102 (fun l112 h113 =>
A.unI l112 (fun n114 l115 =>
A.un0 l115 (
A.cmp .neq n114 (.ofNat 0) (fun t116 =>
A.cond t116 (
K [(.b false)] h113) (
A.call 28 [(.i n74), (.i n76), (.i n60), (.i n62)] h113 (fun l117 h118 =>
A.unI l117 (fun n119 l120 =>
A.un0 l120 (
A.cmp .neq n119 (.ofNat 0) (fun t121 =>
A.cond t121 (
K [(.b false)] h118) (
A.peek (luG cc 44 false (.int .i64 (.ofNat 0)) (.map (some m39)) (.agg ⟨[(.int .i64 n56), (.int .i64 n58)]⟩) false) h118 (fun l122 =>
A.ucI .i64 l122 (fun n123 l124 =>
A.uc0 l124 (
A.ari .add .i64 n123 (.ofNat 1) (fun n125 =>
A.heap (meG cc 44 false (.int .i64 (.ofNat 0)) (.map (some m39)) (.agg ⟨[(.int .i64 n56), (.int .i64 n58)]⟩)) h118 (fun l126 h127 =>
A.ucI .i64 l126 (fun n128 l129 =>
A.ucI .i64 l129 (fun n130 l131 =>
A.uc0 l131 (
A.heap (esG (.map (some m39)) n130 (.int .i64 n125)) h127 (fun l132 h133 =>
A.peek (luG cc 44 false (.int .i64 (.ofNat 0)) (.map (some m39)) (.agg ⟨[(.int .i64 n60), (.int .i64 n62)]⟩) false) h133 (fun l134 =>
A.ucI .i64 l134 (fun n135 l136 =>
A.uc0 l136 (
A.ari .add .i64 n135 (.ofNat 1) (fun n137 =>
A.heap (meG cc 44 false (.int .i64 (.ofNat 0)) (.map (some m39)) (.agg ⟨[(.int .i64 n60), (.int .i64 n62)]⟩)) h133 (fun l138 h139 =>
A.ucI .i64 l138 (fun n140 l141 =>
A.ucI .i64 l141 (fun n142 l143 =>
A.uc0 l143 (
A.heap (esG (.map (some m39)) n142 (.int .i64 n137)) h139 (fun l144 h145 =>
A.ari .add .i64 n44 (.ofNat 1) (fun n146 =>
s41 [(.i n146)] h145))))))))))))))))))))))))))))))))))))))))))))))))))))))))))))))))))))))))))))))))) (
A.call 29 [(.i n12), (.i n14)] h43 (fun l147 h148 =>
A.unV l147 (fun x149 l150 =>
A.unI l150 (fun n151 l152 =>
A.un0 l152 (
A.loop (fun s153 l154 h155 =>
A.unI l154 (fun n156 l157 =>
A.unI l157 (fun n158 l159 =>
A.un0 l159 (
A.ari .mul .i64 (.ofNat 2) n14 (fun n160 =>
A.cmp .leq n158 n160 (fun t161 =>
A.cond t161 (
A.loop (fun s162 l163 h164 =>
A.unI l163 (fun n165 l166 =>
A.unI l166 (fun n167 l168 =>
A.un0 l168 (
A.ari .mul .i64 (.ofNat 2) n12 (fun n169 =>
A.cmp .leq n167 n169 (fun t170 =>
A.cond t170 (
A.join (fun l171 h172 =>
A.unI l171 (fun n173 l174 =>
A.un0 l174 (
A.ari .add .i64 n167 (.ofNat 1) (fun n175 =>
s162 [(.i n173), (.i n175)] h172)))) (fun j176 =>
A.join (fun l177 h178 =>
A.unB l177 (fun t179 l180 =>
A.un0 l180 (
A.cond (!t179) (
j176 [(.i n165)] h178) (
A.ari .rem .i64 n167 (.ofNat 2) (fun n181 =>
A.cmp .eql n181 (.ofNat 1) (fun t182 =>
A.join (fun l183 h184 =>
A.unI l183 (fun n185 l186 =>
A.un0 l186 (
A.opt (lenS x149) (fun x187 =>
A.cmp .geq n165 x187 (fun t188 =>
A.cond t188 (
K [(.b false)] h184) (
A.opt (idS 2 x149 n165) (fun x189 =>
A.peek (ldP 2 x189) h184 (fun l190 =>
A.ucI .i64 l190 (fun n191 l192 =>
A.ucI .i64 l192 (fun n193 l194 =>
A.uc0 l194 (
A.eqs [((.i n191), (.i n167)), ((.i n193), (.i n158))] (fun t195 =>
A.cond (!t195) (
K [(.b false)] h184) (
A.opt (idS 2 x149 n165) (fun x196 =>
A.peek (ldP 2 x196) h184 (fun l197 =>
A.ucI .i64 l197 (fun n198 l199 =>
A.ucI .i64 l199 (fun n200 l201 =>
A.uc0 l201 (
A.peek (luG cc 44 false (.int .i64 (.ofNat 0)) (.map (some m39)) (.agg ⟨[(.int .i64 n198), (.int .i64 n200)]⟩) false) h184 (fun l202 =>
A.ucI .i64 l202 (fun n203 l204 =>
A.uc0 l204 (
A.cmp .neq n203 n185 (fun t205 =>
A.cond t205 (
K [(.b false)] h184) (
A.ari .add .i64 n165 (.ofNat 1) (fun n206 =>
j176 [(.i n206)] h184)))))))))))))))))))))))) (fun j207 =>
A.cond t182 (
j207 [(.i (.ofNat 4))] h178) (
j207 [(.i (.ofNat 8))] h178)))))))) (fun j208 =>
A.cmp .gtr n167 (.ofNat 0) (fun t209 =>
A.cond t209 (
A.cmp .gtr n158 (.ofNat 0) (fun t210 =>
A.cond t210 (
A.ari .mul .i64 (.ofNat 2) n12 (fun n211 =>
A.cmp .lss n167 n211 (fun t212 =>
A.cond t212 (
A.ari .mul .i64 (.ofNat 2) n14 (fun n213 =>
A.cmp .lss n158 n213 (fun t214 =>
A.cond t214 (
A.ari .add .i64 n167 n158 (fun n215 =>
A.ari .rem .i64 n215 (.ofNat 2) (fun n216 =>
A.cmp .eql n216 (.ofNat 0) (fun t217 =>
j208 [(.b t217)] h164)))) (
j208 [(.b false)] h164)))) (
j208 [(.b false)] h164)))) (
j208 [(.b false)] h164))) (
j208 [(.b false)] h164))))) (
A.ari .add .i64 n158 (.ofNat 1) (fun n218 =>
s153 [(.i n165), (.i n218)] h164)))))))) [(.i n156), (.i (.ofNat 0))] h155) (
A.join (fun l219 h220 =>
A.unB l219 (fun t221 l222 =>
A.un0 l222 (
K [(.b t221)] h220))) (fun j223 =>
A.cmp .eql n151 (.ofNat 0) (fun t224 =>
A.cond t224 (
A.opt (lenS x149) (fun x225 =>
A.cmp .eql n156 x225 (fun t226 =>
A.cond t226 (
A.opt (capS x149) (fun x227 =>
A.cmp .eql x227 n156 (fun t228 =>
A.cond t228 (
A.call 21 [] h155 (fun l229 h230 =>
A.unB l229 (fun t231 l232 =>
A.un0 l232 (
j223 [(.b t231)] h230)))) (
j223 [(.b false)] h155)))) (
j223 [(.b false)] h155)))) (
j223 [(.b false)] h155)))))))))) [(.i (.ofNat 0)), (.i (.ofNat 0))] h148)))))))))) [(.i (.ofNat 0))] h40))))))))))))))))))))))))))))))))

/-- crimp/crimplaw05.SheetsNone -/
noncomputable def f5 (ls : List Lf) (h : HT) (K : List Lf → HT → R) : R :=
A.unI ls (fun n6 l7 =>
A.unI l7 (fun n8 l9 =>
A.unI l9 (fun n10 l11 =>
A.unI l11 (fun n12 l13 =>
A.un0 l13 (
A.call 17 [(.i n6), (.i n8)] h (fun l14 h15 =>
A.unI l14 (fun n16 l17 =>
A.unI l17 (fun n18 l19 =>
A.un0 l19 (
A.call 24 [(.i n16), (.i n18)] h15 (fun l20 h21 =>
A.unV l20 (fun x22 l23 =>
A.un0 l23 (
A.loop (fun s24 l25 h26 =>
A.unB l25 (fun t27 l28 =>
A.unI l28 (fun n29 l30 =>
A.un0 l30 (
A.opt (lenS x22) (fun x31 =>
A.cmp .lss n29 x31 (fun t32 =>
A.cond t32 (
A.join (fun l33 h34 =>
A.unB l33 (fun t35 l36 =>
A.un0 l36 (
A.ari .add .i64 n29 (.ofNat 1) (fun n37 =>
s24 [(.b t35), (.i n37)] h34)))) (fun j38 =>
A.cond t27 (
j38 [(.b true)] h26) (
A.opt (idS 2 x22 n29) (fun x39 =>
A.peek (ldP 2 x39) h26 (fun l40 =>
A.ucI .i64 l40 (fun n41 l42 =>
A.ucI .u8 l42 (fun n43 l44 =>
A.uc0 l44 (
A.eqs [((.i n41), (.i n10)), ((.i n43), (.i n12))] (fun t45 =>
j38 [(.b t45)] h26))))))))) (
A.call 26 [(.i n16), (.i n18), (.i n10), (.i n12)] h26 (fun l46 h47 =>
A.unI l46 (fun n48 l49 =>
A.unI l49 (fun n50 l51 =>
A.unI l51 (fun n52 l53 =>
A.un0 l53 (
A.call 25 [(.i n16), (.i n18), (.i n10), (.i n12)] h47 (fun l54 h55 =>
A.unI l54 (fun n56 l57 =>
A.unI l57 (fun n58 l59 =>
A.unI l59 (fun n60 l61 =>
A.unI l61 (fun n62 l63 =>
A.unI l63 (fun n64 l65 =>
A.un0 l65 (
A.cond (!t27) (
A.join (fun l66 h67 =>
A.unB l66 (fun t68 l69 =>
A.un0 l69 (
K [(.b t68)] h67))) (fun j70 =>
A.cmp .eql n52 (.ofNat 7) (fun t71 =>
A.cond t71 (
A.cmp .eql n64 (.ofNat 7) (fun t72 =>
A.cond t72 (
A.eqs [((.i n48), (.i (.ofNat 0))), ((.i n50), (.i (.ofNat 0)))] (fun t73 =>
A.cond t73 (
A.eqs [((.i n56), (.i (.ofNat 0))), ((.i n58), (.i (.ofNat 0))), ((.i n60), (.i (.ofNat 0))), ((.i n62), (.i (.ofNat 0)))] (fun t74 =>
A.cond t74 (
A.call 21 [] h55 (fun l75 h76 =>
A.unB l75 (fun t77 l78 =>
A.un0 l78 (
j70 [(.b t77)] h76)))) (
j70 [(.b false)] h55))) (
j70 [(.b false)] h55))) (
j70 [(.b false)] h55))) (
j70 [(.b false)] h55)))) (
A.call 30 [(.i n16), (.i n18)] h55 (fun l79 h80 =>
A.unV l79 (fun x81 l82 =>
A.un0 l82 (
A.opt (idS 3 x81 n10) (fun x83 =>
A.peek (ldP 3 x83) h80 (fun l84 =>
A.ucI .i64 l84 (fun n85 l86 =>
A.ucI .i64 l86 (fun n87 l88 =>
A.ucI .u8 l88 (fun n89 l90 =>
A.uc0 l90 (
A.join (fun l91 h92 =>
A.unB l91 (fun t93 l94 =>
A.un0 l94 (
K [(.b t93)] h92))) (fun j95 =>
A.cmp .eql n52 (.ofNat 0) (fun t96 =>
A.cond t96 (
A.cmp .eql n64 (.ofNat 0) (fun t97 =>
A.cond t97 (
A.conv .i64 n12 (fun n98 =>
A.call 31 [(.i n85), (.i n87), (.i n89), (.i n98)] h80 (fun l99 h100 =>
A.unI l99 (fun n101 l102 =>
A.unI l102 (fun n103 l104 =>
A.un0 l104 (
A.eqs [((.i n48), (.i n101)), ((.i n50), (.i n103))] (fun t105 =>
A.cond t105 (
A.call 21 [] h100 (fun l106 h107 =>
A.unB l106 (fun t108 l109 =>
A.un0 l109 (
j95 [(.b t108)] h107)))) (
j95 [(.b false)] h100)))))))) (
j95 [(.b false)] h80))) (
j95 [(.b false)] h80)))))))))))))))))))))))))))))))) [(.b false), (.i (.ofNat 0))] h21))))))))))))

/-- crimp/crimplaw05.SheetsCheck -/
noncomputable def f6 (ls : List Lf) (h : HT) (K : List Lf → HT → R) : R :=
A.unI ls (fun n6 l7 =>
A.unI l7 (fun n8 l9 =>
A.unI l9 (fun n10 l11 =>
A.un0 l11 (
A.call 32 [(.i n6), (.i n8)] h (fun l12 h13 =>
A.unI l12 (fun n14 l15 =>
A.un0 l15 (
A.cmp .eql n14 (.ofNat 1) (fun t16 =>
A.call 33 [(.i n6), (.i n8)] h13 (fun l17 h18 =>
A.unI l17 (fun n19 l20 =>
A.un0 l20 (
A.cmp .eql n19 (.ofNat 0) (fun t21 =>
A.eqs [((.b t21), (.b t16))] (fun t22 =>
A.cond (!t22) (
K [(.b false)] h18) (
A.cond t16 (
A.join (fun l23 h24 =>
A.unB l23 (fun t25 l26 =>
A.un0 l26 (
K [(.b t25)] h24))) (fun j27 =>
A.call 34 [(.i n6), (.i n8)] h18 (fun l28 h29 =>
A.unI l28 (fun n30 l31 =>
A.un0 l31 (
A.ari .mul .i64 (.ofNat 4) n6 (fun n32 =>
A.ari .mul .i64 n32 n8 (fun n33 =>
A.cmp .eql n30 n33 (fun t34 =>
A.cond t34 (
A.call 21 [] h29 (fun l35 h36 =>
A.unB l35 (fun t37 l38 =>
A.un0 l38 (
j27 [(.b t37)] h36)))) (
j27 [(.b false)] h29))))))))) (
A.call 35 [(.i n6), (.i n8), (.i n10)] h18 (fun l39 h40 =>
A.unI l39 (fun n41 l42 =>
A.unI l42 (fun n43 l44 =>
A.unI l44 (fun n45 l46 =>
A.unI l46 (fun n47 l48 =>
A.un0 l48 (
A.call 36 [(.i n6), (.i n8), (.i (.ofNat 0)), (.i (.ofNat 0)), (.i (.ofNat 0))] h40 (fun l49 h50 =>
A.unI l49 (fun n51 l52 =>
A.unI l52 (fun n53 l54 =>
A.un0 l54 (
A.call 18 [(.i n6), (.i n8), (.i n10), (.i (.ofNat 0))] h50 (fun l55 h56 =>
A.unI l55 (fun n57 l58 =>
A.unI l58 (fun n59 l60 =>
A.un0 l60 (
A.call 19 [(.i n6), (.i n8), (.i n10), (.i (.ofNat 9))] h56 (fun l61 h62 =>
A.unI l61 (fun n63 l64 =>
A.unI l64 (fun n65 l66 =>
A.unI l66 (fun n67 l68 =>
A.un0 l68 (
A.call 23 [(.i n6), (.i n8)] h62 (fun l69 h70 =>
A.unV l69 (fun x71 l72 =>
A.unI l72 (fun n73 l74 =>
A.un0 l74 (
A.call 26 [(.i n6), (.i n8), (.i (.ofNat 0)), (.i (.ofNat 0))] h70 (fun l75 h76 =>
A.unI l75 (fun n77 l78 =>
A.unI l78 (fun n79 l80 =>
A.unI l80 (fun n81 l82 =>
A.un0 l82 (
A.call 25 [(.i n6), (.i n8), (.i (.ofNat 0)), (.i (.ofNat 0))] h76 (fun l83 h84 =>
A.unI l83 (fun n85 l86 =>
A.unI l86 (fun n87 l88 =>
A.unI l88 (fun n89 l90 =>
A.unI l90 (fun n91 l92 =>
A.unI l92 (fun n93 l94 =>
A.un0 l94 (
A.call 29 [(.i n6), (.i n8)] h84 (fun l95 h96 =>
A.unV l95 (fun x97 l98 =>
A.unI l98 (fun n99 l100 =>
A.un0 l100 (
A.call 37 [(.i n6), (.i n8)] h96 (fun l101 h102 =>
A.unV l101 (fun x103 l104 =>
A.unI l104 (fun n105 l106 =>
A.un0 l106 (
A.call 33 [(.i n6), (.i n8)] h102 (fun l107 h108 =>
A.unI l107 (fun n109 l110 =>
A.un0 l110 (
A.new (.cells [(.int .i64 n109), (.int .i64 n47), (.int .i64 n53), (.int .i64 n59), (.int .i64 n67), (.int .i64 n73), (.int .i64 n81), (.int .i64 n93), (.int .i64 n99), (.int .i64 n105)] 1 true) h108 (fun m111 h112 =>
A.loop (fun s113 l114 h115 =>
A.unI l114 (fun n116 l117 =>
A.un0 l117 (
A.opt (lenS (.slice (some ⟨m111, 0, (some 11)⟩) 10 11)) (fun x118 =>
A.cmp .lss n116 x118 (fun t119 =>
A.cond t119 (
A.opt (idS 1 (.slice (some ⟨m111, 0, (some 11)⟩) 10 11) n116) (fun x120 =>
A.peek (ldP 1 x120) h115 (fun l121 =>
A.ucI .i64 l121 (fun n122 l123 =>
A.uc0 l123 (
A.cmp .neq n122 (.ofNat 1) (fun t124 =>
A.cond t124 (
K [(.b false)] h115) (
A.ari .add .i64 n116 (.ofNat 1) (fun n125 =>
s113 [(.i n125)] h115)))))))) (
A.join (fun l126 h127 =>
A.unB l126 (fun t128 l129 =>
A.un0 l129 (
K [(.b t128)] h127))) (fun j130 =>
A.call 34 [(.i n6), (.i n8)] h115 (fun l131 h132 =>
A.unI l131 (fun n133 l134 =>
A.un0 l134 (
A.cmp .eql n133 (.ofNat 0) (fun t135 =>
A.cond t135 (
A.call 21 [] h132 (fun l136 h137 =>
A.unB l136 (fun t138 l139 =>
A.un0 l139 (
j130 [(.b t138)] h137)))) (
j130 [(.b false)] h132)))))))))))) [(.i (.ofNat 0))] h112))))))))))))))))))))))))))))))))))))))))))))))))))))))))))))))

/-- crimp/crimplaw05.SheetsCell -/
noncomputable def f7 (ls : List Lf) (h : HT) (K : List Lf → HT → R) : R :=
A.unI ls (fun n6 l7 =>
A.unI l7 (fun n8 l9 =>
A.unI l9 (fun n10 l11 =>
A.unI l11 (fun n12 l13 =>
A.unI l13 (fun n14 l15 =>
A.unI l15 (fun n16 l17 =>
A.un0 l17 (
A.call 17 [(.i n6), (.i n8)] h (fun l18 h19 =>
A.unI l18 (fun n20 l21 =>
A.unI l21 (fun n22 l23 =>
A.un0 l23 (
A.call 37 [(.i n20), (.i n22)] h19 (fun l24 h25 =>
A.unV l24 (fun x26 l27 =>
A.unI l27 (fun n28 l29 =>
A.un0 l29 (
A.call 30 [(.i n20), (.i n22)] h25 (fun l30 h31 =>
A.unV l30 (fun x32 l33 =>
A.un0 l33 (
A.cmp .neq n28 (.ofNat 0) (fun t34 =>
A.cond t34 (
K [(.b false)] h31) (
A.opt (lenS x26) (fun x35 =>
A.opt (lenS x32) (fun x36 =>
A.cmp .neq x35 x36 (fun t37 =>
A.cond t37 (
K [(.b false)] h31) (
A.opt (capS x26) (fun x38 =>
A.opt (lenS x26) (fun x39 =>
A.cmp .neq x38 x39 (fun t40 =>
A.cond t40 (
K [(.b false)] h31) (
A.loop (fun s41 l42 h43 =>
A.unI l42 (fun n44 l45 =>
A.un0 l45 (
A.opt (lenS x32) (fun x46 =>
A.cmp .lss n44 x46 (fun t47 =>
A.cond t47 (
A.call 35 [(.i n20), (.i n22), (.i n44)] h43 (fun l48 h49 =>
A.unI l48 (fun n50 l51 =>
A.unI l51 (fun n52 l53 =>
A.unI l53 (fun n54 l55 =>
A.unI l55 (fun n56 l57 =>
A.un0 l57 (
A.opt (idS 3 x32 n44) (fun x58 =>
A.peek (ldP 3 x58) h49 (fun l59 =>
A.ucI .i64 l59 (fun n60 l61 =>
A.ucI .i64 l61 (fun n62 l63 =>
A.ucI .u8 l63 (fun n64 l65 =>
A.uc0 l65 (
A.call 36 [(.i n20), (.i n22), (.i n60), (.i n62), (.i n64)] h49 (fun l66 h67 =>
A.unI l66 (fun n68 l69 =>
A.unI l69 (fun n70 l71 =>
A.un0 l71 (
A.opt (idS 3 x26 n44) (fun x72 =>
A.peek (ldP 3 x72) h67 (fun l73 =>
A.ucI .i64 l73 (fun n74 l75 =>
A.ucI .i64 l75 (fun n76 l77 =>
A.ucI .u8 l77 (fun n78 l79 =>
A.uc0 l79 (
A.opt (idS 3 x32 n44) (fun x80 =>
A.peek (ldP 3 x80) h67 (fun l81 =>
A.ucI .i64 l81 (fun n82 l83 =>
A.ucI .i64 l83 (fun n84 l85 =>
A.ucI .u8 l85 (fun n86 l87 =>
A.uc0 l87 (
A.eqs [((.i n74), (.i n82)), ((.i n76), (.i n84)), ((.i n78), (.i n86))] (fun t88 =>
A.cond (!t88) (
K [(.b false)] h67) (
A.cmp .neq n56 (.ofNat 0) (fun t89 =>
A.cond t89 (
K [(.b false)] h67) (
A.opt (idS 3 x32 n44) (fun x90 =>
A.peek (ldP 3 x90) h67 (fun l91 =>
A.ucI .i64 l91 (fun n92 l93 =>
A.ucI .i64 l93 (fun n94 l95 =>
A.ucI .u8 l95 (fun n96 l97 =>
A.uc0 l97 (
A.eqs [((.i n50), (.i n92)), ((.i n52), (.i n94)), ((.i n54), (.i n96))] (fun t98 =>
A.cond (!t98) (
K [(.b false)] h67) (
A.cmp .neq n70 (.ofNat 0) (fun t99 =>
A.cond t99 (
K [(.b false)] h67) (
A.cmp .neq n68 n44 (fun t100 =>
A.cond t100 (
K [(.b false)] h67) (
A.ari .add .i64 n44 (.ofNat 1) (fun n101 =>
s41 [(.i n101)] h67)))))))))))))))))))))))))))))))))))))))))))))) (
A.call 35 [(.i n20), (.i n22), (.i n10)] h43 (fun l102 h103 =>
A.unI l102 (fun n104 l105 =>
A.unI l105 (fun n106 l107 =>
A.unI l107 (fun n108 l109 =>
A.unI l109 (fun n110 l111 =>
A.un0 l111 (
A.cmp .lss n10 (.ofNat 0) (fun t112 =>
A.cond t112 (
A.cmp .neq n110 (.ofNat 7) (fun t113 =>
A.cond t113 (
K [(.b false)] h103) (
A.eqs [((.i n104), (.i (.ofNat 0))), ((.i n106), (.i (.ofNat 0))), ((.i n108), (.i (.ofNat 0)))] (fun t114 =>
A.cond (!t114) (
K [(.b false)] h103) (
A.call 36 [(.i n20), (.i n22), (.i n12), (.i n14), (.i n16)] h103 (fun l115 h116 =>
A.unI l115 (fun n117 l118 =>
A.unI l118 (fun n119 l120 =>
A.un0 l120 (
A.call 38 [(.i n20), (.i n22), (.i n12), (.i n14), (.i n16)] h116 (fun l121 h122 =>
A.unI l121 (fun n123 l124 =>
A.un0 l124 (
A.cmp .lss n123 (.ofNat 0) (fun t125 =>
A.cond t125 (
A.join (fun l126 h127 =>
A.unB l126 (fun t128 l129 =>
A.un0 l129 (
K [(.b t128)] h127))) (fun j130 =>
A.cmp .eql n119 (.ofNat 7) (fun t131 =>
A.cond t131 (
A.cmp .eql n117 (.ofNat 0) (fun t132 =>
A.cond t132 (
A.call 21 [] h122 (fun l133 h134 =>
A.unB l133 (fun t135 l136 =>
A.un0 l136 (
j130 [(.b t135)] h134)))) (
j130 [(.b false)] h122))) (
j130 [(.b false)] h122)))) (
A.join (fun l137 h138 =>
A.unB l137 (fun t139 l140 =>
A.un0 l140 (
K [(.b t139)] h138))) (fun j141 =>
A.cmp .eql n119 (.ofNat 0) (fun t142 =>
A.cond t142 (
A.cmp .eql n117 n123 (fun t143 =>
A.cond t143 (
A.call 21 [] h122 (fun l144 h145 =>
A.unB l144 (fun t146 l147 =>
A.un0 l147 (
j141 [(.b t146)] h145)))) (
j141 [(.b false)] h122))) (
j141 [(.b false)] h122))))))))))))))))) (
A.opt (lenS x32) (fun x148 =>
A.cmp .geq n10 x148 (fun t149 =>
A.join (fun l150 h151 =>
A.un0 l150 (
A.call 36 [(.i n20), (.i n22), (.i n12), (.i n14), (.i n16)] h151 (fun l152 h153 =>
A.unI l152 (fun n154 l155 =>
A.unI l155 (fun n156 l157 =>
A.un0 l157 (
A.call 38 [(.i n20), (.i n22), (.i n12), (.i n14), (.i n16)] h153 (fun l158 h159 =>
A.unI l158 (fun n160 l161 =>
A.un0 l161 (
A.cmp .lss n160 (.ofNat 0) (fun t162 =>
A.cond t162 (
A.join (fun l163 h164 =>
A.unB l163 (fun t165 l166 =>
A.un0 l166 (
K [(.b t165)] h164))) (fun j167 =>
A.cmp .eql n156 (.ofNat 7) (fun t168 =>
A.cond t168 (
A.cmp .eql n154 (.ofNat 0) (fun t169 =>
A.cond t169 (
A.call 21 [] h159 (fun l170 h171 =>
A.unB l170 (fun t172 l173 =>
A.un0 l173 (
j167 [(.b t172)] h171)))) (
j167 [(.b false)] h159))) (
j167 [(.b false)] h159)))) (
A.join (fun l174 h175 =>
A.unB l174 (fun t176 l177 =>
A.un0 l177 (
K [(.b t176)] h175))) (fun j178 =>
A.cmp .eql n156 (.ofNat 0) (fun t179 =>
A.cond t179 (
A.cmp .eql n154 n160 (fun t180 =>
A.cond t180 (
A.call 21 [] h159 (fun l181 h182 =>
A.unB l181 (fun t183 l184 =>
A.un0 l184 (
j178 [(.b t183)] h182)))) (
j178 [(.b false)] h159))) (
j178 [(.b false)] h159)))))))))))))) (fun j185 =>
A.cond t149 (
A.cmp .neq n110 (.ofNat 7) (fun t186 =>
A.cond t186 (
K [(.b false)] h103) (
A.eqs [((.i n104), (.i (.ofNat 0))), ((.i n106), (.i (.ofNat 0))), ((.i n108), (.i (.ofNat 0)))] (fun t187 =>
A.cond (!t187) (
K [(.b false)] h103) (
j185 [] h103))))) (
j185 [] h103)))))))))))))))))) [(.i (.ofNat 0))] h31))))))))))))))))))))))))))))

/-- crimp/crimplaw05.SheetsKnown -/
noncomputable def f8 (ls : List Lf) (h : HT) (K : List Lf → HT → R) : R :=
A.un0 ls (
A.loop (fun s6 l7 h8 =>
A.unI l7 (fun n9 l10 =>
A.unI l10 (fun n11 l12 =>
A.un0 l12 (
A.cmp .lss n11 (.ofNat 25) (fun t13 =>
A.cond t13 (
A.conv .u8 n11 (fun n14 =>
A.ari .quo .i64 n11 (.ofNat 5) (fun n15 =>
A.conv .u8 n15 (fun n16 =>
A.call 4 [(.i n14), (.i n16)] h8 (fun l17 h18 =>
A.unB l17 (fun t19 l20 =>
A.un0 l20 (
A.cond (!t19) (
K [(.b false)] h18) (
A.ari .rem .i64 n9 (.ofNat 120) (fun n21 =>
A.ari .sub .i64 n21 (.ofNat 10) (fun n22 =>
A.ari .rem .i64 n9 (.ofNat 7) (fun n23 =>
A.ari .quo .i64 n9 (.ofNat 7) (fun n24 =>
A.ari .rem .i64 n24 (.ofNat 6) (fun n25 =>
A.ari .rem .i64 n9 (.ofNat 5) (fun n26 =>
A.conv .u8 n26 (fun n27 =>
A.call 7 [(.i n14), (.i n16), (.i n22), (.i n23), (.i n25), (.i n27)] h18 (fun l28 h29 =>
A.unB l28 (fun t30 l31 =>
A.un0 l31 (
A.cond (!t30) (
K [(.b false)] h29) (
A.ari .rem .i64 n9 (.ofNat 110) (fun n32 =>
A.ari .rem .i64 n11 (.ofNat 4) (fun n33 =>
A.conv .u8 n33 (fun n34 =>
A.call 3 [(.i n14), (.i n16), (.i n32), (.i n34)] h29 (fun l35 h36 =>
A.unB l35 (fun t37 l38 =>
A.un0 l38 (
A.cond (!t37) (
K [(.b false)] h36) (
A.ari .rem .i64 n9 (.ofNat 90) (fun n39 =>
A.ari .rem .i64 n9 (.ofNat 4) (fun n40 =>
A.conv .u8 n40 (fun n41 =>
A.call 22 [(.i n39), (.i n41)] h36 (fun l42 h43 =>
A.unI l42 (fun n44 l45 =>
A.unI l45 (fun n46 l47 =>
A.un0 l47 (
A.call 5 [(.i n14), (.i n16), (.i n44), (.i n46)] h43 (fun l48 h49 =>
A.unB l48 (fun t50 l51 =>
A.un0 l51 (
A.cond (!t50) (
K [(.b false)] h49) (
A.ari .mul .i64 n11 (.ofNat 13) (fun n52 =>
A.ari .rem .i64 n9 (.ofNat 20) (fun n53 =>
A.ari .sub .i64 n53 (.ofNat 2) (fun n54 =>
A.call 39 [(.i n52), (.i n54)] h49 (fun l55 h56 =>
A.unI l55 (fun n57 l58 =>
A.unI l58 (fun n59 l60 =>
A.un0 l60 (
A.call 6 [(.i n57), (.i n59), (.i n11)] h56 (fun l61 h62 =>
A.unB l61 (fun t63 l64 =>
A.un0 l64 (
A.cond (!t63) (
K [(.b false)] h62) (
A.ari .mul .i64 n9 (.ofNat 31) (fun n65 =>
A.ari .mul .i64 (.ofNat 7) n11 (fun n66 =>
A.ari .add .i64 n65 n66 (fun n67 =>
A.ari .add .i64 n67 (.ofNat 11) (fun n68 =>
A.ari .rem .i64 n68 (.ofNat 100003) (fun n69 =>
A.ari .add .i64 n11 (.ofNat 1) (fun n70 =>
s6 [(.i n69), (.i n70)] h62)))))))))))))))))))))))))))))))))))))))))))))))))))))) (
A.call 39 [(.i (.ofNat 16)), (.i (.ofNat 16))] h8 (fun l71 h72 =>
A.unI l71 (fun n73 l74 =>
A.unI l74 (fun n75 l76 =>
A.un0 l76 (
A.call 23 [(.i n73), (.i n75)] h72 (fun l77 h78 =>
A.unV l77 (fun x79 l80 =>
A.unI l80 (fun n81 l82 =>
A.un0 l82 (
A.call 39 [(.i (.ofNat 1)), (.i (.ofNat 256))] h78 (fun l83 h84 =>
A.unI l83 (fun n85 l86 =>
A.unI l86 (fun n87 l88 =>
A.un0 l88 (
A.call 23 [(.i n85), (.i n87)] h84 (fun l89 h90 =>
A.unV l89 (fun x91 l92 =>
A.unI l92 (fun n93 l94 =>
A.un0 l94 (
A.join (fun l95 h96 =>
A.unB l95 (fun t97 l98 =>
A.un0 l98 (
K [(.b t97)] h96))) (fun j99 =>
A.cmp .eql n81 (.ofNat 0) (fun t100 =>
A.cond t100 (
A.cmp .eql n93 (.ofNat 0) (fun t101 =>
A.cond t101 (
A.opt (lenS x79) (fun x102 =>
A.cmp .eql x102 (.ofNat 1504) (fun t103 =>
A.cond t103 (
A.opt (lenS x91) (fun x104 =>
A.cmp .eql x104 (.ofNat 1279) (fun t105 =>
A.cond t105 (
A.call 39 [(.i (.ofNat 4611686018427387904)), (.i (.ofNat 4611686018427387904))] h90 (fun l106 h107 =>
A.unI l106 (fun n108 l109 =>
A.unI l109 (fun n110 l111 =>
A.un0 l111 (
A.call 6 [(.i n108), (.i n110), (.i (.negSucc 9223372036854775807))] h107 (fun l112 h113 =>
A.unB l112 (fun t114 l115 =>
A.un0 l115 (
A.cond t114 (
A.call 21 [] h113 (fun l116 h117 =>
A.unB l116 (fun t118 l119 =>
A.un0 l119 (
j99 [(.b t118)] h117)))) (
j99 [(.b false)] h113))))))))) (
j99 [(.b false)] h90)))) (
j99 [(.b false)] h90)))) (
j99 [(.b false)] h90))) (
j99 [(.b false)] h90))))))))))))))))))))))))) [(.i (.ofNat 1)), (.i (.ofNat 0))] h)

/-- crimp/crimplaw03.CellsLine -/
noncomputable def f9 (ls : List Lf) (h : HT) (K : List Lf → HT → R) : R :=
A.unI ls (fun n6 l7 =>
A.unI l7 (fun n8 l9 =>
A.unI l9 (fun n10 l11 =>
A.unI l11 (fun n12 l13 =>
A.un0 l13 (
A.call 40 [(.i n6), (.i n8), (.i n10), (.i n12)] h (fun l14 h15 =>
A.unI l14 (fun n16 l17 =>
A.unI l17 (fun n18 l19 =>
A.unI l19 (fun n20 l21 =>
A.un0 l21 (
A.call 41 [(.i n6), (.i n8), (.i n10)] h15 (fun l22 h23 =>
A.unI l22 (fun n24 l25 =>
A.unI l25 (fun n26 l27 =>
A.unI l27 (fun n28 l29 =>
A.unI l29 (fun n30 l31 =>
A.unI l31 (fun n32 l33 =>
A.unI l33 (fun n34 l35 =>
A.unI l35 (fun n36 l37 =>
A.un0 l37 (
A.call 42 [(.i n6), (.i n8), (.i n10)] h23 (fun l38 h39 =>
A.unI l38 (fun n40 l41 =>
A.un0 l41 (
A.cmp .eql n40 (.ofNat 1) (fun t42 =>
A.call 43 [(.i n6), (.i n8), (.i n10)] h39 (fun l43 h44 =>
A.unI l43 (fun n45 l46 =>
A.un0 l46 (
A.cmp .eql n45 (.ofNat 0) (fun t47 =>
A.eqs [((.b t47), (.b t42))] (fun t48 =>
A.cond (!t48) (
K [(.b false)] h44) (
A.cond (!t42) (
A.call 43 [(.i n6), (.i n8), (.i n10)] h44 (fun l49 h50 =>
A.unI l49 (fun n51 l52 =>
A.un0 l52 (
A.cmp .neq n51 (.ofNat 1) (fun t53 =>
A.cond t53 (
K [(.b false)] h50) (
A.cond (!t42) (
A.join (fun l54 h55 =>
A.unB l54 (fun t56 l57 =>
A.un0 l57 (
K [(.b t56)] h55))) (fun j58 =>
A.cmp .eql n20 (.ofNat 1) (fun t59 =>
A.cond t59 (
A.cmp .eql n36 (.ofNat 1) (fun t60 =>
A.cond t60 (
A.eqs [((.i n16), (.i (.ofNat 0))), ((.i n18), (.i (.ofNat 0)))] (fun t61 =>
A.cond t61 (
A.eqs [((.i n24), (.i (.ofNat 0))), ((.i n26), (.i (.ofNat 0))), ((.i n28), (.i (.ofNat 0))), ((.i n30), (.i (.ofNat 0))), ((.i n32), (.i (.ofNat 0))), ((.i n34), (.i (.ofNat 0)))] (fun t62 =>
A.cond t62 (
A.call 44 [] h50 (fun l63 h64 =>
A.unB l63 (fun t65 l66 =>
A.un0 l66 (
j58 [(.b t65)] h64)))) (
j58 [(.b false)] h50))) (
j58 [(.b false)] h50))) (
j58 [(.b false)] h50))) (
j58 [(.b false)] h50)))) (
A.cmp .neq n36 (.ofNat 0) (fun t67 =>
A.cond t67 (
K [(.b false)] h50) (
A.call 45 [(.i n6), (.i n8), (.i n10)] h50 (fun l68 h69 =>
A.unI l68 (fun n70 l71 =>
A.unI l71 (fun n72 l73 =>
A.unI l73 (fun n74 l75 =>
A.unI l75 (fun n76 l77 =>
A.unI l77 (fun n78 l79 =>
A.unI l79 (fun n80 l81 =>
A.un0 l81 (
A.eqs [((.i n24), (.i n70)), ((.i n26), (.i n72)), ((.i n28), (.i n74)), ((.i n30), (.i n76)), ((.i n32), (.i n78)), ((.i n34), (.i n80))] (fun t82 =>
A.cond (!t82) (
K [(.b false)] h69) (
A.cmp .gtr n12 (.ofNat 2) (fun t83 =>
A.cond t83 (
A.join (fun l84 h85 =>
A.unB l84 (fun t86 l87 =>
A.un0 l87 (
K [(.b t86)] h85))) (fun j88 =>
A.cmp .eql n20 (.ofNat 1) (fun t89 =>
A.cond t89 (
A.eqs [((.i n16), (.i (.ofNat 0))), ((.i n18), (.i (.ofNat 0)))] (fun t90 =>
A.cond t90 (
A.call 44 [] h69 (fun l91 h92 =>
A.unB l91 (fun t93 l94 =>
A.un0 l94 (
j88 [(.b t93)] h92)))) (
j88 [(.b false)] h69))) (
j88 [(.b false)] h69)))) (
A.conv .i64 n12 (fun n95 =>
A.call 31 [(.i n6), (.i n8), (.i n10), (.i n95)] h69 (fun l96 h97 =>
A.unI l96 (fun n98 l99 =>
A.unI l99 (fun n100 l101 =>
A.un0 l101 (
A.call 46 [(.i n98), (.i n100)] h97 (fun l102 h103 =>
A.unI l102 (fun n104 l105 =>
A.un0 l105 (
A.cmp .eql n104 (.ofNat 0) (fun t106 =>
A.cond t106 (
A.join (fun l107 h108 =>
A.unB l107 (fun t109 l110 =>
A.un0 l110 (
K [(.b t109)] h108))) (fun j111 =>
A.cmp .eql n20 (.ofNat 3) (fun t112 =>
A.cond t112 (
A.eqs [((.i n16), (.i (.ofNat 0))), ((.i n18), (.i (.ofNat 0)))] (fun t113 =>
A.cond t113 (
A.call 44 [] h103 (fun l114 h115 =>
A.unB l114 (fun t116 l117 =>
A.un0 l117 (
j111 [(.b t116)] h115)))) (
j111 [(.b false)] h103))) (
j111 [(.b false)] h103)))) (
A.join (fun l118 h119 =>
A.unB l118 (fun t120 l121 =>
A.un0 l121 (
K [(.b t120)] h119))) (fun j122 =>
A.cmp .eql n20 (.ofNat 0) (fun t123 =>
A.cond t123 (
A.eqs [((.i n16), (.i n98)), ((.i n18), (.i n100))] (fun t124 =>
A.cond t124 (
A.call 44 [] h103 (fun l125 h126 =>
A.unB l125 (fun t127 l128 =>
A.un0 l128 (
j122 [(.b t127)] h126)))) (
j122 [(.b false)] h103))) (
j122 [(.b false)] h103)))))))))))))))))))))))))))))))))) (
A.cond (!t42) (
A.join (fun l129 h130 =>
A.unB l129 (fun t131 l132 =>
A.un0 l132 (
K [(.b t131)] h130))) (fun j133 =>
A.cmp .eql n20 (.ofNat 1) (fun t134 =>
A.cond t134 (
A.cmp .eql n36 (.ofNat 1) (fun t135 =>
A.cond t135 (
A.eqs [((.i n16), (.i (.ofNat 0))), ((.i n18), (.i (.ofNat 0)))] (fun t136 =>
A.cond t136 (
A.eqs [((.i n24), (.i (.ofNat 0))), ((.i n26), (.i (.ofNat 0))), ((.i n28), (.i (.ofNat 0))), ((.i n30), (.i (.ofNat 0))), ((.i n32), (.i (.ofNat 0))), ((.i n34), (.i (.ofNat 0)))] (fun t137 =>
A.cond t137 (
A.call 44 [] h44 (fun l138 h139 =>
A.unB l138 (fun t140 l141 =>
A.un0 l141 (
j133 [(.b t140)] h139)))) (
j133 [(.b false)] h44))) (
j133 [(.b false)] h44))) (
j133 [(.b false)] h44))) (
j133 [(.b false)] h44)))) (
A.cmp .neq n36 (.ofNat 0) (fun t142 =>
A.cond t142 (
K [(.b false)] h44) (
A.call 45 [(.i n6), (.i n8), (.i n10)] h44 (fun l143 h144 =>
A.unI l143 (fun n145 l146 =>
A.unI l146 (fun n147 l148 =>
A.unI l148 (fun n149 l150 =>
A.unI l150 (fun n151 l152 =>
A.unI l152 (fun n153 l154 =>
A.unI l154 (fun n155 l156 =>
A.un0 l156 (
A.eqs [((.i n24), (.i n145)), ((.i n26), (.i n147)), ((.i n28), (.i n149)), ((.i n30), (.i n151)), ((.i n32), (.i n153)), ((.i n34), (.i n155))] (fun t157 =>
A.cond (!t157) (
K [(.b false)] h144) (
A.cmp .gtr n12 (.ofNat 2) (fun t158 =>
A.cond t158 (
A.join (fun l159 h160 =>
A.unB l159 (fun t161 l162 =>
A.un0 l162 (
K [(.b t161)] h160))) (fun j163 =>
A.cmp .eql n20 (.ofNat 1) (fun t164 =>
A.cond t164 (
A.eqs [((.i n16), (.i (.ofNat 0))), ((.i n18), (.i (.ofNat 0)))] (fun t165 =>
A.cond t165 (
A.call 44 [] h144 (fun l166 h167 =>
A.unB l166 (fun t168 l169 =>
A.un0 l169 (
j163 [(.b t168)] h167)))) (
j163 [(.b false)] h144))) (
j163 [(.b false)] h144)))) (
A.conv .i64 n12 (fun n170 =>
A.call 31 [(.i n6), (.i n8), (.i n10), (.i n170)] h144 (fun l171 h172 =>
A.unI l171 (fun n173 l174 =>
A.unI l174 (fun n175 l176 =>
A.un0 l176 (
A.call 46 [(.i n173), (.i n175)] h172 (fun l177 h178 =>
A.unI l177 (fun n179 l180 =>
A.un0 l180 (
A.cmp .eql n179 (.ofNat 0) (fun t181 =>
A.cond t181 (
A.join (fun l182 h183 =>
A.unB l182 (fun t184 l185 =>
A.un0 l185 (
K [(.b t184)] h183))) (fun j186 =>
A.cmp .eql n20 (.ofNat 3) (fun t187 =>
A.cond t187 (
A.eqs [((.i n16), (.i (.ofNat 0))), ((.i n18), (.i (.ofNat 0)))] (fun t188 =>
A.cond t188 (
A.call 44 [] h178 (fun l189 h190 =>
A.unB l189 (fun t191 l192 =>
A.un0 l192 (
j186 [(.b t191)] h190)))) (
j186 [(.b false)] h178))) (
j186 [(.b false)] h178)))) (
A.join (fun l193 h194 =>
A.unB l193 (fun t195 l196 =>
A.un0 l196 (
K [(.b t195)] h194))) (fun j197 =>
A.cmp .eql n20 (.ofNat 0) (fun t198 =>
A.cond t198 (
A.eqs [((.i n16), (.i n173)), ((.i n18), (.i n175))] (fun t199 =>
A.cond t199 (
A.call 44 [] h178 (fun l200 h201 =>
A.unB l200 (fun t202 l203 =>
A.un0 l203 (
j197 [(.b t202)] h201)))) (
j197 [(.b false)] h178))) (
j197 [(.b false)] h178))))))))))))))))))))))))))))))))))))))))))))))))))))))))))

/-- crimp/crimplaw03.CellsNeighbour -/
noncomputable def f10 (ls : List Lf) (h : HT) (K : List Lf → HT → R) : R :=
A.unI ls (fun n6 l7 =>
A.unI l7 (fun n8 l9 =>
A.unI l9 (fun n10 l11 =>
A.unI l11 (fun n12 l13 =>
A.unI l13 (fun n14 l15 =>
A.unI l15 (fun n16 l17 =>
A.unI l17 (fun n18 l19 =>
A.un0 l19 (
A.call 47 [(.i n6), (.i n8), (.i n10), (.i n12)] h (fun l20 h21 =>
A.unI l20 (fun n22 l23 =>
A.unI l23 (fun n24 l25 =>
A.unI l25 (fun n26 l27 =>
A.unI l27 (fun n28 l29 =>
A.un0 l29 (
A.call 48 [(.i n6), (.i n8), (.i n10), (.i n14), (.i n16), (.i n18)] h21 (fun l30 h31 =>
A.unI l30 (fun n32 l33 =>
A.unI l33 (fun n34 l35 =>
A.un0 l35 (
A.call 42 [(.i n6), (.i n8), (.i n10)] h31 (fun l36 h37 =>
A.unI l36 (fun n38 l39 =>
A.un0 l39 (
A.cmp .eql n38 (.ofNat 0) (fun t40 =>
A.cond t40 (
A.join (fun l41 h42 =>
A.unB l41 (fun t43 l44 =>
A.un0 l44 (
K [(.b t43)] h42))) (fun j45 =>
A.cmp .eql n28 (.ofNat 1) (fun t46 =>
A.cond t46 (
A.eqs [((.i n22), (.i (.ofNat 0))), ((.i n24), (.i (.ofNat 0))), ((.i n26), (.i (.ofNat 0)))] (fun t47 =>
A.cond t47 (
A.call 42 [(.i n6), (.i n8), (.i n10)] h37 (fun l48 h49 =>
A.unI l48 (fun n50 l51 =>
A.un0 l51 (
A.cmp .eql n50 (.ofNat 1) (fun t52 =>
A.cond t52 (
A.call 44 [] h49 (fun l53 h54 =>
A.unB l53 (fun t55 l56 =>
A.un0 l56 (
j45 [(.b t55)] h54)))) (
A.cmp .eql n34 (.ofNat 1) (fun t57 =>
A.cond t57 (
A.call 44 [] h49 (fun l58 h59 =>
A.unB l58 (fun t60 l61 =>
A.un0 l61 (
j45 [(.b t60)] h59)))) (
j45 [(.b false)] h49)))))))) (
j45 [(.b false)] h37))) (
j45 [(.b false)] h37)))) (
A.cmp .gtr n12 (.ofNat 2) (fun t62 =>
A.cond t62 (
A.join (fun l63 h64 =>
A.unB l63 (fun t65 l66 =>
A.un0 l66 (
K [(.b t65)] h64))) (fun j67 =>
A.cmp .eql n28 (.ofNat 1) (fun t68 =>
A.cond t68 (
A.eqs [((.i n22), (.i (.ofNat 0))), ((.i n24), (.i (.ofNat 0))), ((.i n26), (.i (.ofNat 0)))] (fun t69 =>
A.cond t69 (
A.call 42 [(.i n6), (.i n8), (.i n10)] h37 (fun l70 h71 =>
A.unI l70 (fun n72 l73 =>
A.un0 l73 (
A.cmp .eql n72 (.ofNat 1) (fun t74 =>
A.cond t74 (
A.call 44 [] h71 (fun l75 h76 =>
A.unB l75 (fun t77 l78 =>
A.un0 l78 (
j67 [(.b t77)] h76)))) (
A.cmp .eql n34 (.ofNat 1) (fun t79 =>
A.cond t79 (
A.call 44 [] h71 (fun l80 h81 =>
A.unB l80 (fun t82 l83 =>
A.un0 l83 (
j67 [(.b t82)] h81)))) (
j67 [(.b false)] h71)))))))) (
j67 [(.b false)] h37))) (
j67 [(.b false)] h37)))) (
A.loop (fun s84 l85 h86 =>
A.unI l85 (fun n87 l88 =>
A.unI l88 (fun n89 l90 =>
A.un0 l90 (
A.cmp .lss n89 (.ofNat 3) (fun t91 =>
A.cond t91 (
A.call 42 [(.i n14), (.i n16), (.i n18)] h86 (fun l92 h93 =>
A.unI l92 (fun n94 l95 =>
A.un0 l95 (
A.cmp .eql n94 (.ofNat 1) (fun t96 =>
A.cond t96 (
A.call 49 [(.i n6), (.i n8), (.i n10), (.i n89)] h93 (fun l97 h98 =>
A.unI l97 (fun n99 l100 =>
A.unI l100 (fun n101 l102 =>
A.unI l102 (fun n103 l104 =>
A.un0 l104 (
A.eqs [((.i n99), (.i n14)), ((.i n101), (.i n16)), ((.i n103), (.i n18))] (fun t105 =>
A.join (fun l106 h107 =>
A.unI l106 (fun n108 l109 =>
A.un0 l109 (
A.ari .add .i64 n89 (.ofNat 1) (fun n110 =>
s84 [(.i n108), (.i n110)] h107)))) (fun j111 =>
A.cond t105 (
A.ari .add .i64 n87 (.ofNat 1) (fun n112 =>
j111 [(.i n112)] h98)) (
j111 [(.i n87)] h98))))))))) (
A.ari .add .i64 n89 (.ofNat 1) (fun n113 =>
s84 [(.i n87), (.i n113)] h93))))))) (
A.cmp .eql n34 (.ofNat 0) (fun t114 =>
A.cmp .eql n87 (.ofNat 1) (fun t115 =>
A.eqs [((.b t114), (.b t115))] (fun t116 =>
A.cond (!t116) (
K [(.b false)] h86) (
A.cmp .eql n34 (.ofNat 1) (fun t117 =>
A.call 42 [(.i n14), (.i n16), (.i n18)] h86 (fun l118 h119 =>
A.unI l118 (fun n120 l121 =>
A.un0 l121 (
A.cmp .eql n120 (.ofNat 0) (fun t122 =>
A.eqs [((.b t117), (.b t122))] (fun t123 =>
A.cond (!t123) (
K [(.b false)] h119) (
A.cmp .neq n34 (.ofNat 0) (fun t124 =>
A.cond t124 (
A.cmp .neq n34 (.ofNat 1) (fun t125 =>
A.cond t125 (
A.cmp .neq n34 (.ofNat 7) (fun t126 =>
A.cond t126 (
K [(.b false)] h119) (
A.conv .i64 n12 (fun n127 =>
A.call 49 [(.i n6), (.i n8), (.i n10), (.i n127)] h119 (fun l128 h129 =>
A.unI l128 (fun n130 l131 =>
A.unI l131 (fun n132 l133 =>
A.unI l133 (fun n134 l135 =>
A.un0 l135 (
A.call 42 [(.i n130), (.i n132), (.i n134)] h129 (fun l136 h137 =>
A.unI l136 (fun n138 l139 =>
A.un0 l139 (
A.cmp .eql n138 (.ofNat 0) (fun t140 =>
A.cond t140 (
A.join (fun l141 h142 =>
A.unB l141 (fun t143 l144 =>
A.un0 l144 (
K [(.b t143)] h142))) (fun j145 =>
A.cmp .eql n28 (.ofNat 3) (fun t146 =>
A.cond t146 (
A.eqs [((.i n22), (.i (.ofNat 0))), ((.i n24), (.i (.ofNat 0))), ((.i n26), (.i (.ofNat 0)))] (fun t147 =>
A.cond t147 (
A.call 44 [] h137 (fun l148 h149 =>
A.unB l148 (fun t150 l151 =>
A.un0 l151 (
j145 [(.b t150)] h149)))) (
j145 [(.b false)] h137))) (
j145 [(.b false)] h137)))) (
A.call 47 [(.i n22), (.i n24), (.i n26), (.i n12)] h137 (fun l152 h153 =>
A.unI l152 (fun n154 l155 =>
A.unI l155 (fun n156 l157 =>
A.unI l157 (fun n158 l159 =>
A.unI l159 (fun n160 l161 =>
A.un0 l161 (
A.call 48 [(.i n6), (.i n8), (.i n10), (.i n22), (.i n24), (.i n26)] h153 (fun l162 h163 =>
A.unI l162 (fun n164 l165 =>
A.unI l165 (fun n166 l167 =>
A.un0 l167 (
A.cmp .neq n28 (.ofNat 0) (fun t168 =>
A.cond t168 (
K [(.b false)] h163) (
A.eqs [((.i n22), (.i n130)), ((.i n24), (.i n132)), ((.i n26), (.i n134))] (fun t169 =>
A.cond (!t169) (
K [(.b false)] h163) (
A.cmp .neq n160 (.ofNat 0) (fun t170 =>
A.cond t170 (
K [(.b false)] h163) (
A.eqs [((.i n154), (.i n6)), ((.i n156), (.i n8)), ((.i n158), (.i n10))] (fun t171 =>
A.cond (!t171) (
K [(.b false)] h163) (
A.cmp .neq n166 (.ofNat 0) (fun t172 =>
A.cond t172 (
K [(.b false)] h163) (
A.cmp .neq n164 n12 (fun t173 =>
A.cond t173 (
K [(.b false)] h163) (
A.conv .i64 n12 (fun n174 =>
A.call 31 [(.i n6), (.i n8), (.i n10), (.i n174)] h163 (fun l175 h176 =>
A.unI l175 (fun n177 l178 =>
A.unI l178 (fun n179 l180 =>
A.un0 l180 (
A.call 46 [(.i n177), (.i n179)] h176 (fun l181 h182 =>
A.unI l181 (fun n183 l184 =>
A.un0 l184 (
A.cmp .eql n183 (.ofNat 0) (fun t185 =>
A.cond t185 (
A.call 44 [] h182 (fun l186 h187 =>
A.unB l186 (fun t188 l189 =>
A.un0 l189 (
K [(.b t188)] h187)))) (
A.call 50 [(.i n177), (.i n179), (.i n6), (.i n8), (.i n10)] h182 (fun l190 h191 =>
A.unI l190 (fun n192 l193 =>
A.unI l193 (fun n194 l195 =>
A.un0 l195 (
A.call 50 [(.i n177), (.i n179), (.i n22), (.i n24), (.i n26)] h191 (fun l196 h197 =>
A.unI l196 (fun n198 l199 =>
A.unI l199 (fun n200 l201 =>
A.un0 l201 (
A.join (fun l202 h203 =>
A.unB l202 (fun t204 l205 =>
A.un0 l205 (
K [(.b t204)] h203))) (fun j206 =>
A.cmp .eql n194 (.ofNat 0) (fun t207 =>
A.cond t207 (
A.cmp .eql n200 (.ofNat 0) (fun t208 =>
A.cond t208 (
A.ari .add .i64 n192 n198 (fun n209 =>
A.cmp .eql n209 (.ofNat 1) (fun t210 =>
A.cond t210 (
A.call 44 [] h197 (fun l211 h212 =>
A.unB l211 (fun t213 l214 =>
A.un0 l214 (
j206 [(.b t213)] h212)))) (
j206 [(.b false)] h197)))) (
j206 [(.b false)] h197))) (
j206 [(.b false)] h197))))))))))))))))))))))))))))))))))))))))))))))))))))))))) (
A.conv .i64 n12 (fun n215 =>
A.call 49 [(.i n6), (.i n8), (.i n10), (.i n215)] h119 (fun l216 h217 =>
A.unI l216 (fun n218 l219 =>
A.unI l219 (fun n220 l221 =>
A.unI l221 (fun n222 l223 =>
A.un0 l223 (
A.call 42 [(.i n218), (.i n220), (.i n222)] h217 (fun l224 h225 =>
A.unI l224 (fun n226 l227 =>
A.un0 l227 (
A.cmp .eql n226 (.ofNat 0) (fun t228 =>
A.cond t228 (
A.join (fun l229 h230 =>
A.unB l229 (fun t231 l232 =>
A.un0 l232 (
K [(.b t231)] h230))) (fun j233 =>
A.cmp .eql n28 (.ofNat 3) (fun t234 =>
A.cond t234 (
A.eqs [((.i n22), (.i (.ofNat 0))), ((.i n24), (.i (.ofNat 0))), ((.i n26), (.i (.ofNat 0)))] (fun t235 =>
A.cond t235 (
A.call 44 [] h225 (fun l236 h237 =>
A.unB l236 (fun t238 l239 =>
A.un0 l239 (
j233 [(.b t238)] h237)))) (
j233 [(.b false)] h225))) (
j233 [(.b false)] h225)))) (
A.call 47 [(.i n22), (.i n24), (.i n26), (.i n12)] h225 (fun l240 h241 =>
A.unI l240 (fun n242 l243 =>
A.unI l243 (fun n244 l245 =>
A.unI l245 (fun n246 l247 =>
A.unI l247 (fun n248 l249 =>
A.un0 l249 (
A.call 48 [(.i n6), (.i n8), (.i n10), (.i n22), (.i n24), (.i n26)] h241 (fun l250 h251 =>
A.unI l250 (fun n252 l253 =>
A.unI l253 (fun n254 l255 =>
A.un0 l255 (
A.cmp .neq n28 (.ofNat 0) (fun t256 =>
A.cond t256 (
K [(.b false)] h251) (
A.eqs [((.i n22), (.i n218)), ((.i n24), (.i n220)), ((.i n26), (.i n222))] (fun t257 =>
A.cond (!t257) (
K [(.b false)] h251) (
A.cmp .neq n248 (.ofNat 0) (fun t258 =>
A.cond t258 (
K [(.b false)] h251) (
A.eqs [((.i n242), (.i n6)), ((.i n244), (.i n8)), ((.i n246), (.i n10))] (fun t259 =>
A.cond (!t259) (
K [(.b false)] h251) (
A.cmp .neq n254 (.ofNat 0) (fun t260 =>
A.cond t260 (
K [(.b false)] h251) (
A.cmp .neq n252 n12 (fun t261 =>
A.cond t261 (
K [(.b false)] h251) (
A.conv .i64 n12 (fun n262 =>
A.call 31 [(.i n6), (.i n8), (.i n10), (.i n262)] h251 (fun l263 h264 =>
A.unI l263 (fun n265 l266 =>
A.unI l266 (fun n267 l268 =>
A.un0 l268 (
A.call 46 [(.i n265), (.i n267)] h264 (fun l269 h270 =>
A.unI l269 (fun n271 l272 =>
A.un0 l272 (
A.cmp .eql n271 (.ofNat 0) (fun t273 =>
A.cond t273 (
A.call 44 [] h270 (fun l274 h275 =>
A.unB l274 (fun t276 l277 =>
A.un0 l277 (
K [(.b t276)] h275)))) (
A.call 50 [(.i n265), (.i n267), (.i n6), (.i n8), (.i n10)] h270 (fun l278 h279 =>
A.unI l278 (fun n280 l281 =>
A.unI l281 (fun n282 l283 =>
A.un0 l283 (
A.call 50 [(.i n265), (.i n267), (.i n22), (.i n24), (.i n26)] h279 (fun l284 h285 =>
A.unI l284 (fun n286 l287 =>
A.unI l287 (fun n288 l289 =>
A.un0 l289 (
A.join (fun l290 h291 =>
A.unB l290 (fun t292 l293 =>
A.un0 l293 (
K [(.b t292)] h291))) (fun j294 =>
A.cmp .eql n282 (.ofNat 0) (fun t295 =>
A.cond t295 (
A.cmp .eql n288 (.ofNat 0) (fun t296 =>
A.cond t296 (
A.ari .add .i64 n280 n286 (fun n297 =>
A.cmp .eql n297 (.ofNat 1) (fun t298 =>
A.cond t298 (
A.call 44 [] h285 (fun l299 h300 =>
A.unB l299 (fun t301 l302 =>
A.un0 l302 (
j294 [(.b t301)] h300)))) (
j294 [(.b false)] h285)))) (
j294 [(.b false)] h285))) (
j294 [(.b false)] h285))))))))))))))))))))))))))))))))))))))))))))))))))))))))) (
A.conv .i64 n12 (fun n303 =>
A.call 49 [(.i n6), (.i n8), (.i n10), (.i n303)] h119 (fun l304 h305 =>
A.unI l304 (fun n306 l307 =>
A.unI l307 (fun n308 l309 =>
A.unI l309 (fun n310 l311 =>
A.un0 l311 (
A.call 42 [(.i n306), (.i n308), (.i n310)] h305 (fun l312 h313 =>
A.unI l312 (fun n314 l315 =>
A.un0 l315 (
A.cmp .eql n314 (.ofNat 0) (fun t316 =>
A.cond t316 (
A.join (fun l317 h318 =>
A.unB l317 (fun t319 l320 =>
A.un0 l320 (
K [(.b t319)] h318))) (fun j321 =>
A.cmp .eql n28 (.ofNat 3) (fun t322 =>
A.cond t322 (
A.eqs [((.i n22), (.i (.ofNat 0))), ((.i n24), (.i (.ofNat 0))), ((.i n26), (.i (.ofNat 0)))] (fun t323 =>
A.cond t323 (
A.call 44 [] h313 (fun l324 h325 =>
A.unB l324 (fun t326 l327 =>
A.un0 l327 (
j321 [(.b t326)] h325)))) (
j321 [(.b false)] h313))) (
j321 [(.b false)] h313)))) (
A.call 47 [(.i n22), (.i n24), (.i n26), (.i n12)] h313 (fun l328 h329 =>
A.unI l328 (fun n330 l331 =>
A.unI l331 (fun n332 l333 =>
A.unI l333 (fun n334 l335 =>
A.unI l335 (fun n336 l337 =>
A.un0 l337 (
A.call 48 [(.i n6), (.i n8), (.i n10), (.i n22), (.i n24), (.i n26)] h329 (fun l338 h339 =>
A.unI l338 (fun n340 l341 =>
A.unI l341 (fun n342 l343 =>
A.un0 l343 (
A.cmp .neq n28 (.ofNat 0) (fun t344 =>
A.cond t344 (
K [(.b false)] h339) (
A.eqs [((.i n22), (.i n306)), ((.i n24), (.i n308)), ((.i n26), (.i n310))] (fun t345 =>
A.cond (!t345) (
K [(.b false)] h339) (
A.cmp .neq n336 (.ofNat 0) (fun t346 =>
A.cond t346 (
K [(.b false)] h339) (
A.eqs [((.i n330), (.i n6)), ((.i n332), (.i n8)), ((.i n334), (.i n10))] (fun t347 =>
A.cond (!t347) (
K [(.b false)] h339) (
A.cmp .neq n342 (.ofNat 0) (fun t348 =>
A.cond t348 (
K [(.b false)] h339) (
A.cmp .neq n340 n12 (fun t349 =>
A.cond t349 (
K [(.b false)] h339) (
A.conv .i64 n12 (fun n350 =>
A.call 31 [(.i n6), (.i n8), (.i n10), (.i n350)] h339 (fun l351 h352 =>
A.unI l351 (fun n353 l354 =>
A.unI l354 (fun n355 l356 =>
A.un0 l356 (
A.call 46 [(.i n353), (.i n355)] h352 (fun l357 h358 =>
A.unI l357 (fun n359 l360 =>
A.un0 l360 (
A.cmp .eql n359 (.ofNat 0) (fun t361 =>
A.cond t361 (
A.call 44 [] h358 (fun l362 h363 =>
A.unB l362 (fun t364 l365 =>
A.un0 l365 (
K [(.b t364)] h363)))) (
A.call 50 [(.i n353), (.i n355), (.i n6), (.i n8), (.i n10)] h358 (fun l366 h367 =>
A.unI l366 (fun n368 l369 =>
A.unI l369 (fun n370 l371 =>
A.un0 l371 (
A.call 50 [(.i n353), (.i n355), (.i n22), (.i n24), (.i n26)] h367 (fun l372 h373 =>
A.unI l372 (fun n374 l375 =>
A.unI l375 (fun n376 l377 =>
A.un0 l377 (
A.join (fun l378 h379 =>
A.unB l378 (fun t380 l381 =>
A.un0 l381 (
K [(.b t380)] h379))) (fun j382 =>
A.cmp .eql n370 (.ofNat 0) (fun t383 =>
A.cond t383 (
A.cmp .eql n376 (.ofNat 0) (fun t384 =>
A.cond t384 (
A.ari .add .i64 n368 n374 (fun n385 =>
A.cmp .eql n385 (.ofNat 1) (fun t386 =>
A.cond t386 (
A.call 44 [] h373 (fun l387 h388 =>
A.unB l387 (fun t389 l390 =>
A.un0 l390 (
j382 [(.b t389)] h388)))) (
j382 [(.b false)] h373)))) (
j382 [(.b false)] h373))) (
j382 [(.b false)] h373))))))))))))))))))))))))))))))))))))))))))))))))))))))))))))))))))))))))) [(.i (.ofNat 0)), (.i (.ofNat 0))] h37)))))))))))))))))))))))))

/-- crimp/crimplaw03.CellsSide -/
noncomputable def f11 (ls : List Lf) (h : HT) (K : List Lf → HT → R) : R :=
A.unI ls (fun n6 l7 =>
A.unI l7 (fun n8 l9 =>
A.unI l9 (fun n10 l11 =>
A.unI l11 (fun n12 l13 =>
A.unI l13 (fun n14 l15 =>
A.un0 l15 (
A.call 50 [(.i n6), (.i n8), (.i n10), (.i n12), (.i n14)] h (fun l16 h17 =>
A.unI l16 (fun n18 l19 =>
A.unI l19 (fun n20 l21 =>
A.un0 l21 (
A.call 46 [(.i n6), (.i n8)] h17 (fun l22 h23 =>
A.unI l22 (fun n24 l25 =>
A.un0 l25 (
A.cmp .eql n24 (.ofNat 0) (fun t26 =>
A.cond t26 (
A.join (fun l27 h28 =>
A.unB l27 (fun t29 l30 =>
A.un0 l30 (
K [(.b t29)] h28))) (fun j31 =>
A.cmp .eql n20 (.ofNat 1) (fun t32 =>
A.cond t32 (
A.cmp .eql n18 (.ofNat 0) (fun t33 =>
A.cond t33 (
A.call 44 [] h23 (fun l34 h35 =>
A.unB l34 (fun t36 l37 =>
A.un0 l37 (
j31 [(.b t36)] h35)))) (
j31 [(.b false)] h23))) (
j31 [(.b false)] h23)))) (
A.call 42 [(.i n10), (.i n12), (.i n14)] h23 (fun l38 h39 =>
A.unI l38 (fun n40 l41 =>
A.un0 l41 (
A.cmp .eql n40 (.ofNat 0) (fun t42 =>
A.cond t42 (
A.join (fun l43 h44 =>
A.unB l43 (fun t45 l46 =>
A.un0 l46 (
K [(.b t45)] h44))) (fun j47 =>
A.cmp .eql n20 (.ofNat 1) (fun t48 =>
A.cond t48 (
A.cmp .eql n18 (.ofNat 0) (fun t49 =>
A.cond t49 (
A.call 44 [] h39 (fun l50 h51 =>
A.unB l50 (fun t52 l53 =>
A.un0 l53 (
j47 [(.b t52)] h51)))) (
j47 [(.b false)] h39))) (
j47 [(.b false)] h39)))) (
A.call 45 [(.i n10), (.i n12), (.i n14)] h39 (fun l54 h55 =>
A.unI l54 (fun n56 l57 =>
A.unI l57 (fun n58 l59 =>
A.unI l59 (fun n60 l61 =>
A.unI l61 (fun n62 l63 =>
A.unI l63 (fun n64 l65 =>
A.unI l65 (fun n66 l67 =>
A.un0 l67 (
A.loop (fun s68 l69 h70 =>
A.unI l69 (fun n71 l72 =>
A.unI l72 (fun n73 l74 =>
A.unI l74 (fun n75 l76 =>
A.un0 l76 (
A.cmp .lss n75 (.ofNat 3) (fun t77 =>
A.cond t77 (
A.opt (inB 3 n75) (fun x78 =>
A.opt (pickL [(.i n56), (.i n58), (.i n60), (.i n62), (.i n64), (.i n66)] 0 [(n75, 2)] 2) (fun x79 =>
A.unI x79 (fun n80 l81 =>
A.unI l81 (fun n82 l83 =>
A.un0 l83 (
A.call 28 [(.i n6), (.i n8), (.i n80), (.i n82)] h70 (fun l84 h85 =>
A.unI l84 (fun n86 l87 =>
A.un0 l87 (
A.cmp .lss n86 (.ofNat 0) (fun t88 =>
A.join (fun l89 h90 =>
A.unI l89 (fun n91 l92 =>
A.un0 l92 (
A.opt (inB 3 n75) (fun x93 =>
A.opt (pickL [(.i n56), (.i n58), (.i n60), (.i n62), (.i n64), (.i n66)] 0 [(n75, 2)] 2) (fun x94 =>
A.unI x94 (fun n95 l96 =>
A.unI l96 (fun n97 l98 =>
A.un0 l98 (
A.call 28 [(.i n6), (.i n8), (.i n95), (.i n97)] h90 (fun l99 h100 =>
A.unI l99 (fun n101 l102 =>
A.un0 l102 (
A.cmp .gtr n101 (.ofNat 0) (fun t103 =>
A.join (fun l104 h105 =>
A.unI l104 (fun n106 l107 =>
A.un0 l107 (
A.ari .add .i64 n75 (.ofNat 1) (fun n108 =>
s68 [(.i n91), (.i n106), (.i n108)] h105)))) (fun j109 =>
A.cond t103 (
A.ari .add .i64 n73 (.ofNat 1) (fun n110 =>
j109 [(.i n110)] h100)) (
j109 [(.i n73)] h100)))))))))))))) (fun j111 =>
A.cond t88 (
A.ari .add .i64 n71 (.ofNat 1) (fun n112 =>
j111 [(.i n112)] h85)) (
j111 [(.i n71)] h85)))))))))))) (
A.join (fun l113 h114 =>
A.unB l113 (fun t115 l116 =>
A.un0 l116 (
K [(.b t115)] h114))) (fun j117 =>
A.cmp .eql n20 (.ofNat 0) (fun t118 =>
A.cond t118 (
A.call 51 [(.i n6), (.i n8), (.i n10), (.i n12), (.i n14)] h70 (fun l119 h120 =>
A.unI l119 (fun n121 l122 =>
A.un0 l122 (
A.cmp .eql n18 n121 (fun t123 =>
A.cond t123 (
A.ari .mul .i64 n71 n73 (fun n124 =>
A.cmp .eql n124 (.ofNat 0) (fun t125 =>
A.cond t125 (
A.cmp .eql n18 (.ofNat 1) (fun t126 =>
A.cmp .gtr n73 (.ofNat 0) (fun t127 =>
A.eqs [((.b t126), (.b t127))] (fun t128 =>
A.cond t128 (
A.call 44 [] h120 (fun l129 h130 =>
A.unB l129 (fun t131 l132 =>
A.un0 l132 (
j117 [(.b t131)] h130)))) (
j117 [(.b false)] h120))))) (
j117 [(.b false)] h120)))) (
j117 [(.b false)] h120)))))) (
j117 [(.b false)] h70)))))))))) [(.i (.ofNat 0)), (.i (.ofNat 0)), (.i (.ofNat 0))] h55))))))))))))))))))))))))))))

/-- crimp/crimplaw03.CellsMove -/
noncomputable def f12 (ls : List Lf) (h : HT) (K : List Lf → HT → R) : R :=
A.unI ls (fun n6 l7 =>
A.unI l7 (fun n8 l9 =>
A.unI l9 (fun n10 l11 =>
A.unI l11 (fun n12 l13 =>
A.unI l13 (fun n14 l15 =>
A.unI l15 (fun n16 l17 =>
A.unI l17 (fun n18 l19 =>
A.un0 l19 (
A.call 52 [(.i n6), (.i n8), (.i n10), (.i n12), (.i n14), (.i n16)] h (fun l20 h21 =>
A.unI l20 (fun n22 l23 =>
A.unI l23 (fun n24 l25 =>
A.unI l25 (fun n26 l27 =>
A.unI l27 (fun n28 l29 =>
A.un0 l29 (
A.call 53 [(.i n6), (.i n8), (.i n10)] h21 (fun l30 h31 =>
A.unI l30 (fun n32 l33 =>
A.un0 l33 (
A.cmp .eql n32 (.ofNat 0) (fun t34 =>
A.cond t34 (
A.join (fun l35 h36 =>
A.unB l35 (fun t37 l38 =>
A.un0 l38 (
K [(.b t37)] h36))) (fun j39 =>
A.cmp .eql n28 (.ofNat 1) (fun t40 =>
A.cond t40 (
A.eqs [((.i n22), (.i (.ofNat 0))), ((.i n24), (.i (.ofNat 0))), ((.i n26), (.i (.ofNat 0)))] (fun t41 =>
A.cond t41 (
A.call 44 [] h31 (fun l42 h43 =>
A.unB l42 (fun t44 l45 =>
A.un0 l45 (
j39 [(.b t44)] h43)))) (
j39 [(.b false)] h31))) (
j39 [(.b false)] h31)))) (
A.call 42 [(.i n12), (.i n14), (.i n16)] h31 (fun l46 h47 =>
A.unI l46 (fun n48 l49 =>
A.un0 l49 (
A.cmp .eql n48 (.ofNat 0) (fun t50 =>
A.cond t50 (
A.join (fun l51 h52 =>
A.unB l51 (fun t53 l54 =>
A.un0 l54 (
K [(.b t53)] h52))) (fun j55 =>
A.cmp .eql n28 (.ofNat 1) (fun t56 =>
A.cond t56 (
A.eqs [((.i n22), (.i (.ofNat 0))), ((.i n24), (.i (.ofNat 0))), ((.i n26), (.i (.ofNat 0)))] (fun t57 =>
A.cond t57 (
A.call 44 [] h47 (fun l58 h59 =>
A.unB l58 (fun t60 l61 =>
A.un0 l61 (
j55 [(.b t60)] h59)))) (
j55 [(.b false)] h47))) (
j55 [(.b false)] h47)))) (
A.call 54 [(.i n6), (.i n8), (.i n10), (.i n12), (.i n14), (.i n16)] h47 (fun l62 h63 =>
A.unI l62 (fun n64 l65 =>
A.unI l65 (fun n66 l67 =>
A.unI l67 (fun n68 l69 =>
A.un0 l69 (
A.call 42 [(.i n64), (.i n66), (.i n68)] h63 (fun l70 h71 =>
A.unI l70 (fun n72 l73 =>
A.un0 l73 (
A.cmp .eql n72 (.ofNat 0) (fun t74 =>
A.cond t74 (
A.join (fun l75 h76 =>
A.unB l75 (fun t77 l78 =>
A.un0 l78 (
K [(.b t77)] h76))) (fun j79 =>
A.cmp .eql n28 (.ofNat 3) (fun t80 =>
A.cond t80 (
A.eqs [((.i n22), (.i (.ofNat 0))), ((.i n24), (.i (.ofNat 0))), ((.i n26), (.i (.ofNat 0)))] (fun t81 =>
A.cond t81 (
A.call 44 [] h71 (fun l82 h83 =>
A.unB l82 (fun t84 l85 =>
A.un0 l85 (
j79 [(.b t84)] h83)))) (
j79 [(.b false)] h71))) (
j79 [(.b false)] h71)))) (
A.cmp .neq n28 (.ofNat 0) (fun t86 =>
A.cond t86 (
K [(.b false)] h71) (
A.eqs [((.i n22), (.i n64)), ((.i n24), (.i n66)), ((.i n26), (.i n68))] (fun t87 =>
A.cond (!t87) (
K [(.b false)] h71) (
A.ari .rem .u8 n18 (.ofNat 3) (fun n88 =>
A.conv .i64 n88 (fun n89 =>
A.call 49 [(.i n12), (.i n14), (.i n16), (.i n89)] h71 (fun l90 h91 =>
A.unI l90 (fun n92 l93 =>
A.unI l93 (fun n94 l95 =>
A.unI l95 (fun n96 l97 =>
A.un0 l97 (
A.call 52 [(.i n6), (.i n8), (.i n10), (.i n92), (.i n94), (.i n96)] h91 (fun l98 h99 =>
A.unI l98 (fun n100 l101 =>
A.unI l101 (fun n102 l103 =>
A.unI l103 (fun n104 l105 =>
A.unI l105 (fun n106 l107 =>
A.un0 l107 (
A.cmp .neq n106 (.ofNat 0) (fun t108 =>
A.cond t108 (
A.join (fun l109 h110 =>
A.unB l109 (fun t111 l112 =>
A.un0 l112 (
K [(.b t111)] h110))) (fun j113 =>
A.call 42 [(.i n92), (.i n94), (.i n96)] h99 (fun l114 h115 =>
A.unI l114 (fun n116 l117 =>
A.un0 l117 (
A.cmp .eql n116 (.ofNat 0) (fun t118 =>
A.cond t118 (
A.call 44 [] h115 (fun l119 h120 =>
A.unB l119 (fun t121 l122 =>
A.un0 l122 (
j113 [(.b t121)] h120)))) (
A.call 54 [(.i n6), (.i n8), (.i n10), (.i n92), (.i n94), (.i n96)] h115 (fun l123 h124 =>
A.unI l123 (fun n125 l126 =>
A.unI l126 (fun n127 l128 =>
A.unI l128 (fun n129 l130 =>
A.un0 l130 (
A.call 42 [(.i n125), (.i n127), (.i n129)] h124 (fun l131 h132 =>
A.unI l131 (fun n133 l134 =>
A.un0 l134 (
A.cmp .eql n133 (.ofNat 0) (fun t135 =>
A.cond t135 (
A.call 44 [] h132 (fun l136 h137 =>
A.unB l136 (fun t138 l139 =>
A.un0 l139 (
j113 [(.b t138)] h137)))) (
j113 [(.b false)] h132))))))))))))))))) (
A.call 48 [(.i n22), (.i n24), (.i n26), (.i n100), (.i n102), (.i n104)] h99 (fun l140 h141 =>
A.unI l140 (fun n142 l143 =>
A.unI l143 (fun n144 l145 =>
A.un0 l145 (
A.join (fun l146 h147 =>
A.unB l146 (fun t148 l149 =>
A.un0 l149 (
K [(.b t148)] h147))) (fun j150 =>
A.cmp .eql n144 (.ofNat 0) (fun t151 =>
A.cond t151 (
A.cmp .eql n142 (.ofNat 0) (fun t152 =>
A.ari .rem .u8 n18 (.ofNat 3) (fun n153 =>
A.cmp .eql n153 (.ofNat 0) (fun t154 =>
A.eqs [((.b t152), (.b t154))] (fun t155 =>
A.cond t155 (
A.call 44 [] h141 (fun l156 h157 =>
A.unB l156 (fun t158 l159 =>
A.un0 l159 (
j150 [(.b t158)] h157)))) (
j150 [(.b false)] h141)))))) (
j150 [(.b false)] h141))))))))))))))))))))))))))))))))))))))))))))))))))))))))))))

/-- crimp/crimplaw03.CellsBetween -/
noncomputable def f13 (ls : List Lf) (h : HT) (K : List Lf → HT → R) : R :=
A.unI ls (fun n6 l7 =>
A.unI l7 (fun n8 l9 =>
A.unI l9 (fun n10 l11 =>
A.unI l11 (fun n12 l13 =>
A.unI l13 (fun n14 l15 =>
A.unI l15 (fun n16 l17 =>
A.un0 l17 (
A.call 55 [(.i n6), (.i n8), (.i n10), (.i n12), (.i n14), (.i n16)] h (fun l18 h19 =>
A.unI l18 (fun n20 l21 =>
A.unI l21 (fun n22 l23 =>
A.unI l23 (fun n24 l25 =>
A.unI l25 (fun n26 l27 =>
A.un0 l27 (
A.call 42 [(.i n6), (.i n8), (.i n10)] h19 (fun l28 h29 =>
A.unI l28 (fun n30 l31 =>
A.un0 l31 (
A.cmp .eql n30 (.ofNat 0) (fun t32 =>
A.cond t32 (
A.join (fun l33 h34 =>
A.unB l33 (fun t35 l36 =>
A.un0 l36 (
K [(.b t35)] h34))) (fun j37 =>
A.cmp .eql n26 (.ofNat 1) (fun t38 =>
A.cond t38 (
A.eqs [((.i n20), (.i (.ofNat 0))), ((.i n22), (.i (.ofNat 0))), ((.i n24), (.i (.ofNat 0)))] (fun t39 =>
A.cond t39 (
A.call 44 [] h29 (fun l40 h41 =>
A.unB l40 (fun t42 l43 =>
A.un0 l43 (
j37 [(.b t42)] h41)))) (
j37 [(.b false)] h29))) (
j37 [(.b false)] h29)))) (
A.call 42 [(.i n12), (.i n14), (.i n16)] h29 (fun l44 h45 =>
A.unI l44 (fun n46 l47 =>
A.un0 l47 (
A.cmp .eql n46 (.ofNat 0) (fun t48 =>
A.cond t48 (
A.join (fun l49 h50 =>
A.unB l49 (fun t51 l52 =>
A.un0 l52 (
K [(.b t51)] h50))) (fun j53 =>
A.cmp .eql n26 (.ofNat 1) (fun t54 =>
A.cond t54 (
A.eqs [((.i n20), (.i (.ofNat 0))), ((.i n22), (.i (.ofNat 0))), ((.i n24), (.i (.ofNat 0)))] (fun t55 =>
A.cond t55 (
A.call 44 [] h45 (fun l56 h57 =>
A.unB l56 (fun t58 l59 =>
A.un0 l59 (
j53 [(.b t58)] h57)))) (
j53 [(.b false)] h45))) (
j53 [(.b false)] h45)))) (
A.call 56 [(.i n6), (.i n8), (.i n10), (.i n12), (.i n14), (.i n16)] h45 (fun l60 h61 =>
A.unI l60 (fun n62 l63 =>
A.unI l63 (fun n64 l65 =>
A.unI l65 (fun n66 l67 =>
A.unI l67 (fun n68 l69 =>
A.un0 l69 (
A.call 52 [(.i n20), (.i n22), (.i n24), (.i n6), (.i n8), (.i n10)] h61 (fun l70 h71 =>
A.unI l70 (fun n72 l73 =>
A.unI l73 (fun n74 l75 =>
A.unI l75 (fun n76 l77 =>
A.unI l77 (fun n78 l79 =>
A.un0 l79 (
A.join (fun l80 h81 =>
A.unB l80 (fun t82 l83 =>
A.un0 l83 (
K [(.b t82)] h81))) (fun j84 =>
A.cmp .eql n26 (.ofNat 0) (fun t85 =>
A.cond t85 (
A.cmp .eql n68 (.ofNat 1) (fun t86 =>
A.cond t86 (
A.eqs [((.i n20), (.i n62)), ((.i n22), (.i n64)), ((.i n24), (.i n66))] (fun t87 =>
A.cond t87 (
A.cmp .eql n78 (.ofNat 0) (fun t88 =>
A.cond t88 (
A.eqs [((.i n72), (.i n12)), ((.i n74), (.i n14)), ((.i n76), (.i n16))] (fun t89 =>
A.cond t89 (
A.call 44 [] h71 (fun l90 h91 =>
A.unB l90 (fun t92 l93 =>
A.un0 l93 (
j84 [(.b t92)] h91)))) (
j84 [(.b false)] h71))) (
j84 [(.b false)] h71))) (
j84 [(.b false)] h71))) (
j84 [(.b false)] h71))) (
j84 [(.b false)] h71))))))))))))))))))))))))))))))))))))))

/-- crimp/crimplaw03.CellsCompare -/
noncomputable def f14 (ls : List Lf) (h : HT) (K : List Lf → HT → R) : R :=
A.unI ls (fun n6 l7 =>
A.unI l7 (fun n8 l9 =>
A.unI l9 (fun n10 l11 =>
A.unI l11 (fun n12 l13 =>
A.unI l13 (fun n14 l15 =>
A.unI l15 (fun n16 l17 =>
A.unI l17 (fun n18 l19 =>
A.unI l19 (fun n20 l21 =>
A.unI l21 (fun n22 l23 =>
A.un0 l23 (
A.call 57 [(.i n12), (.i n14), (.i n16), (.i n6), (.i n8), (.i n10)] h (fun l24 h25 =>
A.unI l24 (fun n26 l27 =>
A.un0 l27 (
A.call 57 [(.i n6), (.i n8), (.i n10), (.i n12), (.i n14), (.i n16)] h25 (fun l28 h29 =>
A.unI l28 (fun n30 l31 =>
A.un0 l31 (
A.ari .sub .i64 n26 n30 (fun n32 =>
A.call 58 [(.i n6), (.i n8), (.i n10), (.i n12), (.i n14), (.i n16)] h29 (fun l33 h34 =>
A.unI l33 (fun n35 l36 =>
A.un0 l36 (
A.cmp .neq n35 n32 (fun t37 =>
A.cond t37 (
K [(.b false)] h34) (
A.call 58 [(.i n12), (.i n14), (.i n16), (.i n6), (.i n8), (.i n10)] h34 (fun l38 h39 =>
A.unI l38 (fun n40 l41 =>
A.un0 l41 (
A.ari .sub .i64 (.ofNat 0) n32 (fun n42 =>
A.cmp .neq n40 n42 (fun t43 =>
A.cond t43 (
K [(.b false)] h39) (
A.call 58 [(.i n6), (.i n8), (.i n10), (.i n6), (.i n8), (.i n10)] h39 (fun l44 h45 =>
A.unI l44 (fun n46 l47 =>
A.un0 l47 (
A.cmp .neq n46 (.ofNat 0) (fun t48 =>
A.cond t48 (
K [(.b false)] h45) (
A.cmp .eql n32 (.ofNat 0) (fun t49 =>
A.eqs [((.i n6), (.i n12)), ((.i n8), (.i n14)), ((.i n10), (.i n16))] (fun t50 =>
A.eqs [((.b t49), (.b t50))] (fun t51 =>
A.cond (!t51) (
K [(.b false)] h45) (
A.join (fun l52 h53 =>
A.unB l52 (fun t54 l55 =>
A.un0 l55 (
K [(.b t54)] h53))) (fun j56 =>
A.call 58 [(.i n6), (.i n8), (.i n10), (.i n12), (.i n14), (.i n16)] h45 (fun l57 h58 =>
A.unI l57 (fun n59 l60 =>
A.un0 l60 (
A.cmp .gtr n59 (.ofNat 0) (fun t61 =>
A.cond t61 (
A.call 44 [] h58 (fun l62 h63 =>
A.unB l62 (fun t64 l65 =>
A.un0 l65 (
j56 [(.b t64)] h63)))) (
A.call 58 [(.i n12), (.i n14), (.i n16), (.i n18), (.i n20), (.i n22)] h58 (fun l66 h67 =>
A.unI l66 (fun n68 l69 =>
A.un0 l69 (
A.cmp .gtr n68 (.ofNat 0) (fun t70 =>
A.cond t70 (
A.call 44 [] h67 (fun l71 h72 =>
A.unB l71 (fun t73 l74 =>
A.un0 l74 (
j56 [(.b t73)] h72)))) (
A.call 58 [(.i n6), (.i n8), (.i n10), (.i n18), (.i n20), (.i n22)] h67 (fun l75 h76 =>
A.unI l75 (fun n77 l78 =>
A.un0 l78 (
A.cmp .leq n77 (.ofNat 0) (fun t79 =>
A.cond t79 (
A.call 44 [] h76 (fun l80 h81 =>
A.unB l80 (fun t82 l83 =>
A.un0 l83 (
j56 [(.b t82)] h81)))) (
j56 [(.b false)] h76)))))))))))))))))))))))))))))))))))))))))))))))))))))

/-- crimp/crimplaw03.CellsWay -/
noncomputable def f15 (ls : List Lf) (h : HT) (K : List Lf → HT → R) : R :=
A.unI ls (fun n6 l7 =>
A.unI l7 (fun n8 l9 =>
A.unI l9 (fun n10 l11 =>
A.unV l11 (fun x12 l13 =>
A.un0 l13 (
A.opt (lenS x12) (fun x14 =>
A.cmp .gtr x14 (.ofNat 30) (fun t15 =>
A.cond t15 (
K [(.b true)] h) (
A.call 59 [(.i n6), (.i n8), (.i n10)] h (fun l16 h17 =>
A.unI l16 (fun n18 l19 =>
A.unI l19 (fun n20 l21 =>
A.unI l21 (fun n22 l23 =>
A.un0 l23 (
A.call 60 [] h17 (fun l24 h25 =>
A.unI l24 (fun n26 l27 =>
A.unI l27 (fun n28 l29 =>
A.unI l29 (fun n30 l31 =>
A.un0 l31 (
A.loop (fun s32 l33 h34 =>
A.unI l33 (fun n35 l36 =>
A.unI l36 (fun n37 l38 =>
A.unI l38 (fun n39 l40 =>
A.unI l40 (fun n41 l42 =>
A.unI l42 (fun n43 l44 =>
A.unI l44 (fun n45 l46 =>
A.unI l46 (fun n47 l48 =>
A.un0 l48 (
A.opt (lenS x12) (fun x49 =>
A.cmp .lss n35 x49 (fun t50 =>
A.cond t50 (
A.opt (idS 1 x12 n35) (fun x51 =>
A.peek (ldP 1 x51) h34 (fun l52 =>
A.ucI .u8 l52 (fun n53 l54 =>
A.uc0 l54 (
A.ari .rem .u8 n53 (.ofNat 3) (fun n55 =>
A.call 40 [(.i n43), (.i n45), (.i n47), (.i n55)] h34 (fun l56 h57 =>
A.unI l56 (fun n58 l59 =>
A.unI l59 (fun n60 l61 =>
A.unI l61 (fun n62 l63 =>
A.un0 l63 (
A.opt (idS 1 x12 n35) (fun x64 =>
A.peek (ldP 1 x64) h57 (fun l65 =>
A.ucI .u8 l65 (fun n66 l67 =>
A.uc0 l67 (
A.ari .rem .u8 n66 (.ofNat 3) (fun n68 =>
A.call 47 [(.i n43), (.i n45), (.i n47), (.i n68)] h57 (fun l69 h70 =>
A.unI l69 (fun n71 l72 =>
A.unI l72 (fun n73 l74 =>
A.unI l74 (fun n75 l76 =>
A.unI l76 (fun n77 l78 =>
A.un0 l78 (
A.call 61 [(.i n58), (.i n60)] h70 (fun l79 h80 =>
A.unI l79 (fun n81 l82 =>
A.unI l82 (fun n83 l84 =>
A.unI l84 (fun n85 l86 =>
A.unI l86 (fun n87 l88 =>
A.un0 l88 (
A.cmp .neq n62 (.ofNat 0) (fun t89 =>
A.cond t89 (
K [(.b false)] h80) (
A.cmp .neq n77 (.ofNat 0) (fun t90 =>
A.cond t90 (
K [(.b false)] h80) (
A.cmp .neq n87 (.ofNat 0) (fun t91 =>
A.cond t91 (
K [(.b false)] h80) (
A.call 62 [(.i n37), (.i n39), (.i n41), (.i n81), (.i n83), (.i n85)] h80 (fun l92 h93 =>
A.unI l92 (fun n94 l95 =>
A.unI l95 (fun n96 l97 =>
A.unI l97 (fun n98 l99 =>
A.unI l99 (fun n100 l101 =>
A.un0 l101 (
A.cmp .neq n100 (.ofNat 0) (fun t102 =>
A.cond t102 (
K [(.b false)] h93) (
A.ari .add .i64 n35 (.ofNat 1) (fun n103 =>
s32 [(.i n103), (.i n94), (.i n96), (.i n98), (.i n71), (.i n73), (.i n75)] h93))))))))))))))))))))))))))))))))))))))))))) (
A.call 59 [(.i n6), (.i n8), (.i n10)] h34 (fun l104 h105 =>
A.unI l104 (fun n106 l107 =>
A.unI l107 (fun n108 l109 =>
A.unI l109 (fun n110 l111 =>
A.un0 l111 (
A.call 55 [(.i n106), (.i n108), (.i n110), (.i n43), (.i n45), (.i n47)] h105 (fun l112 h113 =>
A.unI l112 (fun n114 l115 =>
A.unI l115 (fun n116 l117 =>
A.unI l117 (fun n118 l119 =>
A.unI l119 (fun n120 l121 =>
A.un0 l121 (
A.join (fun l122 h123 =>
A.unB l122 (fun t124 l125 =>
A.un0 l125 (
K [(.b t124)] h123))) (fun j126 =>
A.cmp .eql n120 (.ofNat 0) (fun t127 =>
A.cond t127 (
A.eqs [((.i n114), (.i n37)), ((.i n116), (.i n39)), ((.i n118), (.i n41))] (fun t128 =>
A.cond t128 (
A.call 63 [(.i n37), (.i n39), (.i n41)] h113 (fun l129 h130 =>
A.unB l129 (fun t131 l132 =>
A.un0 l132 (
A.opt (lenS x12) (fun x133 =>
A.ari .rem .i64 x133 (.ofNat 2) (fun n134 =>
A.cmp .eql n134 (.ofNat 1) (fun t135 =>
A.eqs [((.b t131), (.b t135))] (fun t136 =>
A.cond t136 (
A.call 44 [] h130 (fun l137 h138 =>
A.unB l137 (fun t139 l140 =>
A.un0 l140 (
j126 [(.b t139)] h138)))) (
j126 [(.b false)] h130))))))))) (
j126 [(.b false)] h113))) (
j126 [(.b false)] h113)))))))))))))))))))))))))) [(.i (.ofNat 0)), (.i n26), (.i n28), (.i n30), (.i n18), (.i n20), (.i n22)] h25))))))))))))))))))

/-- crimp/crimplaw03.CellsKnown -/
noncomputable def f16 (ls : List Lf) (h : HT) (K : List Lf → HT → R) : R :=
A.un0 ls (
A.loop (fun s6 l7 h8 =>
A.unI l7 (fun n9 l10 =>
A.unI l10 (fun n11 l12 =>
A.un0 l12 (
A.cmp .lss n11 (.ofNat 48) (fun t13 =>
A.cond t13 (
A.conv .i8 n11 (fun n14 =>
A.ari .rem .i64 n9 (.ofNat 50) (fun n15 =>
A.conv .i8 n15 (fun n16 =>
A.conv .u8 n11 (fun n17 =>
A.ari .sub .i64 (.ofNat 0) n9 (fun n18 =>
A.ari .rem .i64 n18 (.ofNat 60) (fun n19 =>
A.conv .i8 n19 (fun n20 =>
A.ari .quo .i64 n9 (.ofNat 9) (fun n21 =>
A.ari .rem .i64 n21 (.ofNat 40) (fun n22 =>
A.conv .i8 n22 (fun n23 =>
A.conv .u8 n9 (fun n24 =>
A.conv .u8 n11 (fun n25 =>
A.ari .rem .i64 n9 (.ofNat 30) (fun n26 =>
A.conv .i8 n26 (fun n27 =>
A.conv .i8 n11 (fun n28 =>
A.call 64 [(.i n25), (.i n27), (.i n28)] h8 (fun l29 h30 =>
A.unI l29 (fun n31 l32 =>
A.unI l32 (fun n33 l34 =>
A.unI l34 (fun n35 l36 =>
A.un0 l36 (
A.conv .u8 n9 (fun n37 =>
A.conv .i8 n11 (fun n38 =>
A.call 65 [(.i n37), (.i n38)] h30 (fun l39 h40 =>
A.unI l39 (fun n41 l42 =>
A.unI l42 (fun n43 l44 =>
A.un0 l44 (
A.call 59 [(.i n14), (.i n16), (.i n17)] h40 (fun l45 h46 =>
A.unI l45 (fun n47 l48 =>
A.unI l48 (fun n49 l50 =>
A.unI l50 (fun n51 l52 =>
A.un0 l52 (
A.ari .rem .i64 n11 (.ofNat 4) (fun n53 =>
A.conv .u8 n53 (fun n54 =>
A.call 9 [(.i n47), (.i n49), (.i n51), (.i n54)] h46 (fun l55 h56 =>
A.unB l55 (fun t57 l58 =>
A.un0 l58 (
A.cond (!t57) (
K [(.b false)] h56) (
A.call 59 [(.i n14), (.i n16), (.i n17)] h56 (fun l59 h60 =>
A.unI l59 (fun n61 l62 =>
A.unI l62 (fun n63 l64 =>
A.unI l64 (fun n65 l66 =>
A.un0 l66 (
A.ari .rem .i64 n11 (.ofNat 3) (fun n67 =>
A.conv .u8 n67 (fun n68 =>
A.call 59 [(.i n20), (.i n23), (.i n24)] h60 (fun l69 h70 =>
A.unI l69 (fun n71 l72 =>
A.unI l72 (fun n73 l74 =>
A.unI l74 (fun n75 l76 =>
A.un0 l76 (
A.call 10 [(.i n61), (.i n63), (.i n65), (.i n68), (.i n71), (.i n73), (.i n75)] h70 (fun l77 h78 =>
A.unB l77 (fun t79 l80 =>
A.un0 l80 (
A.cond (!t79) (
K [(.b false)] h78) (
A.call 59 [(.i n20), (.i n23), (.i n24)] h78 (fun l81 h82 =>
A.unI l81 (fun n83 l84 =>
A.unI l84 (fun n85 l86 =>
A.unI l86 (fun n87 l88 =>
A.un0 l88 (
A.call 11 [(.i n41), (.i n43), (.i n83), (.i n85), (.i n87)] h82 (fun l89 h90 =>
A.unB l89 (fun t91 l92 =>
A.un0 l92 (
A.cond (!t91) (
K [(.b false)] h90) (
A.call 59 [(.i n14), (.i n16), (.i n17)] h90 (fun l93 h94 =>
A.unI l93 (fun n95 l96 =>
A.unI l96 (fun n97 l98 =>
A.unI l98 (fun n99 l100 =>
A.un0 l100 (
A.conv .u8 n9 (fun n101 =>
A.call 12 [(.i n31), (.i n33), (.i n35), (.i n95), (.i n97), (.i n99), (.i n101)] h94 (fun l102 h103 =>
A.unB l102 (fun t104 l105 =>
A.un0 l105 (
A.cond (!t104) (
K [(.b false)] h103) (
A.call 59 [(.i n14), (.i n16), (.i n17)] h103 (fun l106 h107 =>
A.unI l106 (fun n108 l109 =>
A.unI l109 (fun n110 l111 =>
A.unI l111 (fun n112 l113 =>
A.un0 l113 (
A.call 59 [(.i n20), (.i n23), (.i n24)] h107 (fun l114 h115 =>
A.unI l114 (fun n116 l117 =>
A.unI l117 (fun n118 l119 =>
A.unI l119 (fun n120 l121 =>
A.un0 l121 (
A.call 13 [(.i n108), (.i n110), (.i n112), (.i n116), (.i n118), (.i n120)] h115 (fun l122 h123 =>
A.unB l122 (fun t124 l125 =>
A.un0 l125 (
A.cond (!t124) (
K [(.b false)] h123) (
A.call 59 [(.i n14), (.i n16), (.i n17)] h123 (fun l126 h127 =>
A.unI l126 (fun n128 l129 =>
A.unI l129 (fun n130 l131 =>
A.unI l131 (fun n132 l133 =>
A.un0 l133 (
A.call 59 [(.i n20), (.i n23), (.i n24)] h127 (fun l134 h135 =>
A.unI l134 (fun n136 l137 =>
A.unI l137 (fun n138 l139 =>
A.unI l139 (fun n140 l141 =>
A.un0 l141 (
A.call 59 [(.i n14), (.i n16), (.i n17)] h135 (fun l142 h143 =>
A.unI l142 (fun n144 l145 =>
A.unI l145 (fun n146 l147 =>
A.unI l147 (fun n148 l149 =>
A.un0 l149 (
A.call 14 [(.i n128), (.i n130), (.i n132), (.i n136), (.i n138), (.i n140), (.i n144), (.i n146), (.i n148)] h143 (fun l150 h151 =>
A.unB l150 (fun t152 l153 =>
A.un0 l153 (
A.cond (!t152) (
K [(.b false)] h151) (
A.conv .u8 n9 (fun n154 =>
A.conv .u8 n11 (fun n155 =>
A.ari .quo .i64 n9 (.ofNat 3) (fun n156 =>
A.conv .u8 n156 (fun n157 =>
A.new (.cells [(.int .u8 n154), (.int .u8 n155), (.int .u8 (.ofNat 0)), (.int .u8 n157), (.int .u8 (.ofNat 1))] 1 true) h151 (fun m158 h159 =>
A.call 15 [(.i n14), (.i n16), (.i n17), (.v (.slice (some ⟨m158, 0, (some 11)⟩) 5 6))] h159 (fun l160 h161 =>
A.unB l160 (fun t162 l163 =>
A.un0 l163 (
A.cond (!t162) (
K [(.b false)] h161) (
A.ari .mul .i64 n9 (.ofNat 31) (fun n164 =>
A.ari .mul .i64 (.ofNat 7) n11 (fun n165 =>
A.ari .add .i64 n164 n165 (fun n166 =>
A.ari .add .i64 n166 (.ofNat 11) (fun n167 =>
A.ari .rem .i64 n167 (.ofNat 100003) (fun n168 =>
A.ari .add .i64 n11 (.ofNat 1) (fun n169 =>
s6 [(.i n168), (.i n169)] h161))))))))))))))))))))))))))))))))))))))))))))))))))))))))))))))))))))))))))))))))))))))))))))))))))))))))))))))))))))))))) (
A.join (fun l170 h171 =>
A.unB l170 (fun t172 l173 =>
A.un0 l173 (
K [(.b t172)] h171))) (fun j174 =>
A.call 66 [(.i (.ofNat 4096)), (.i (.ofNat 4096)), (.i (.ofNat 2))] h8 (fun l175 h176 =>
A.unI l175 (fun n177 l178 =>
A.unI l178 (fun n179 l180 =>
A.unI l180 (fun n181 l182 =>
A.un0 l182 (
A.call 9 [(.i n177), (.i n179), (.i n181), (.i (.ofNat 0))] h176 (fun l183 h184 =>
A.unB l183 (fun t185 l186 =>
A.un0 l186 (
A.cond t185 (
A.call 66 [(.i (.ofNat 4096)), (.i (.ofNat 0)), (.i (.ofNat 1))] h184 (fun l187 h188 =>
A.unI l187 (fun n189 l190 =>
A.unI l190 (fun n191 l192 =>
A.unI l192 (fun n193 l194 =>
A.un0 l194 (
A.call 66 [(.i (.ofNat 4096)), (.i (.ofNat 0)), (.i (.ofNat 0))] h188 (fun l195 h196 =>
A.unI l195 (fun n197 l198 =>
A.unI l198 (fun n199 l200 =>
A.unI l200 (fun n201 l202 =>
A.un0 l202 (
A.call 10 [(.i n189), (.i n191), (.i n193), (.i (.ofNat 0)), (.i n197), (.i n199), (.i n201)] h196 (fun l203 h204 =>
A.unB l203 (fun t205 l206 =>
A.un0 l206 (
A.cond t205 (
A.call 66 [(.i (.negSucc 4095)), (.i (.ofNat 0)), (.i (.ofNat 3))] h204 (fun l207 h208 =>
A.unI l207 (fun n209 l210 =>
A.unI l210 (fun n211 l212 =>
A.unI l212 (fun n213 l214 =>
A.un0 l214 (
A.call 66 [(.i (.ofNat 0)), (.i (.ofNat 0)), (.i (.ofNat 4))] h208 (fun l215 h216 =>
A.unI l215 (fun n217 l218 =>
A.unI l218 (fun n219 l220 =>
A.unI l220 (fun n221 l222 =>
A.un0 l222 (
A.call 10 [(.i n209), (.i n211), (.i n213), (.i (.ofNat 0)), (.i n217), (.i n219), (.i n221)] h216 (fun l223 h224 =>
A.unB l223 (fun t225 l226 =>
A.un0 l226 (
A.cond t225 (
A.call 44 [] h224 (fun l227 h228 =>
A.unB l227 (fun t229 l230 =>
A.un0 l230 (
j174 [(.b t229)] h228)))) (
j174 [(.b false)] h224))))))))))))))) (
j174 [(.b false)] h204))))))))))))))) (
j174 [(.b false)] h184)))))))))))))))) [(.i (.ofNat 1)), (.i (.ofNat 0))] h)

/-- (crimp/crimplaw05.W).Of -/
noncomputable def f17 (ls : List Lf) (h : HT) (K : List Lf → HT → R) : R :=
A.unI ls (fun n6 l7 =>
A.unI l7 (fun n8 l9 =>
A.un0 l9 (
A.ari .rem .u8 n6 (.ofNat 5) (fun n10 =>
A.conv .i64 n10 (fun n11 =>
A.ari .add .i64 (.ofNat 1) n11 (fun n12 =>
A.ari .rem .u8 n8 (.ofNat 5) (fun n13 =>
A.conv .i64 n13 (fun n14 =>
A.ari .add .i64 (.ofNat 1) n14 (fun n15 =>
K [(.i n12), (.i n15)] h)))))))))

/-- crimp/sheets.Neighbour -/
noncomputable def f18 (ls : List Lf) (h : HT) (K : List Lf → HT → R) : R :=
A.unI ls (fun n6 l7 =>
A.unI l7 (fun n8 l9 =>
A.unI l9 (fun n10 l11 =>
A.unI l11 (fun n12 l13 =>
A.un0 l13 (
A.call 35 [(.i n6), (.i n8), (.i n10)] h (fun l14 h15 =>
A.unI l14 (fun n16 l17 =>
A.unI l17 (fun n18 l19 =>
A.unI l19 (fun n20 l21 =>
A.unI l21 (fun n22 l23 =>
A.un0 l23 (
A.cmp .neq n22 (.ofNat 0) (fun t24 =>
A.cond t24 (
K [(.i (.ofNat 0)), (.i n22)] h15) (
A.call 47 [(.i n16), (.i n18), (.i n20), (.i n12)] h15 (fun l25 h26 =>
A.unI l25 (fun n27 l28 =>
A.unI l28 (fun n29 l30 =>
A.unI l30 (fun n31 l32 =>
A.unI l32 (fun n33 l34 =>
A.un0 l34 (
A.cmp .neq n33 (.ofNat 0) (fun t35 =>
A.cond t35 (
K [(.i (.ofNat 0)), (.i (.ofNat 1))] h26) (
A.call 36 [(.i n6), (.i n8), (.i n27), (.i n29), (.i n31)] h26 (fun l36 h37 =>
A.unI l36 (fun n38 l39 =>
A.unI l39 (fun n40 l41 =>
A.un0 l41 (
K [(.i n38), (.i n40)] h37)))))))))))))))))))))))))

/-- crimp/sheets.Name -/
noncomputable def f19 (ls : List Lf) (h : HT) (K : List Lf → HT → R) : R :=
A.unI ls (fun n6 l7 =>
A.unI l7 (fun n8 l9 =>
A.unI l9 (fun n10 l11 =>
A.unI l11 (fun n12 l13 =>
A.un0 l13 (
A.call 18 [(.i n6), (.i n8), (.i n10), (.i n12)] h (fun l14 h15 =>
A.unI l14 (fun n16 l17 =>
A.unI l17 (fun n18 l19 =>
A.un0 l19 (
A.cmp .neq n18 (.ofNat 0) (fun t20 =>
A.cond t20 (
K [(.i (.ofNat 0)), (.i (.ofNat 0)), (.i n18)] h15) (
A.cmp .lss n16 n10 (fun t21 =>
A.sel t21 n16 n10 (fun n22 =>
K [(.i n22), (.i n12), (.i (.ofNat 0))] h15)))))))))))))

/-- crimp/crimpref05.Neighbour -/
noncomputable def f20 (ls : List Lf) (h : HT) (K : List Lf → HT → R) : R :=
A.unI ls (fun n6 l7 =>
A.unI l7 (fun n8 l9 =>
A.unI l9 (fun n10 l11 =>
A.unI l11 (fun n12 l13 =>
A.un0 l13 (
A.ari .quo .i64 n10 (.ofNat 4) (fun n14 =>
A.ari .rem .i64 n14 n6 (fun n15 =>
A.ari .mul .i64 (.ofNat 4) n6 (fun n16 =>
A.ari .quo .i64 n10 n16 (fun n17 =>
A.ari .rem .i64 n10 (.ofNat 4) (fun n18 =>
A.conv .u8 n18 (fun n19 =>
A.call 49 [(.i n15), (.i n17), (.i n19), (.i n12)] h (fun l20 h21 =>
A.unI l20 (fun n22 l23 =>
A.unI l23 (fun n24 l25 =>
A.unI l25 (fun n26 l27 =>
A.un0 l27 (
A.call 38 [(.i n6), (.i n8), (.i n22), (.i n24), (.i n26)] h21 (fun l28 h29 =>
A.unI l28 (fun n30 l31 =>
A.un0 l31 (
K [(.i n30)] h29)))))))))))))))))))

/-- crimp/crimplaw05.lives -/
noncomputable def f21 (ls : List Lf) (h : HT) (K : List Lf → HT → R) : R :=
A.un0 ls (
A.call 39 [(.i (.ofNat 2)), (.i (.ofNat 1))] h (fun l6 h7 =>
A.unI l6 (fun n8 l9 =>
A.unI l9 (fun n10 l11 =>
A.un0 l11 (
A.call 35 [(.i n8), (.i n10), (.i (.ofNat 5))] h7 (fun l12 h13 =>
A.unI l12 (fun n14 l15 =>
A.unI l15 (fun n16 l17 =>
A.unI l17 (fun n18 l19 =>
A.unI l19 (fun n20 l21 =>
A.un0 l21 (
A.call 39 [(.i (.ofNat 2)), (.i (.ofNat 1))] h13 (fun l22 h23 =>
A.unI l22 (fun n24 l25 =>
A.unI l25 (fun n26 l27 =>
A.un0 l27 (
A.call 36 [(.i n24), (.i n26), (.i (.ofNat 1)), (.i (.ofNat 0)), (.i (.ofNat 0))] h23 (fun l28 h29 =>
A.unI l28 (fun n30 l31 =>
A.unI l31 (fun n32 l33 =>
A.un0 l33 (
A.call 39 [(.i (.ofNat 2)), (.i (.ofNat 1))] h29 (fun l34 h35 =>
A.unI l34 (fun n36 l37 =>
A.unI l37 (fun n38 l39 =>
A.un0 l39 (
A.call 19 [(.i n36), (.i n38), (.i (.ofNat 7)), (.i (.ofNat 0))] h35 (fun l40 h41 =>
A.unI l40 (fun n42 l43 =>
A.unI l43 (fun n44 l45 =>
A.unI l45 (fun n46 l47 =>
A.un0 l47 (
A.call 39 [(.i (.ofNat 2)), (.i (.ofNat 1))] h41 (fun l48 h49 =>
A.unI l48 (fun n50 l51 =>
A.unI l51 (fun n52 l53 =>
A.un0 l53 (
A.call 34 [(.i n50), (.i n52)] h49 (fun l54 h55 =>
A.unI l54 (fun n56 l57 =>
A.un0 l57 (
A.cmp .neq n56 (.ofNat 8) (fun t58 =>
A.cond t58 (
K [(.b false)] h55) (
A.eqs [((.i n14), (.i (.ofNat 1))), ((.i n16), (.i (.ofNat 0))), ((.i n18), (.i (.ofNat 1)))] (fun t59 =>
A.cond (!t59) (
K [(.b false)] h55) (
A.cmp .neq n30 (.ofNat 4) (fun t60 =>
A.cond t60 (
K [(.b false)] h55) (
A.call 22 [(.i (.ofNat 1)), (.i (.ofNat 0))] h55 (fun l61 h62 =>
A.unI l61 (fun n63 l64 =>
A.unI l64 (fun n65 l66 =>
A.un0 l66 (
A.eqs [((.i n42), (.i n63)), ((.i n44), (.i n65))] (fun t67 =>
A.cond (!t67) (
K [(.b false)] h62) (
A.loop (fun s68 l69 h70 =>
A.unI l69 (fun n71 l72 =>
A.un0 l72 (
A.cmp .lss n71 (.ofNat 3) (fun t73 =>
A.cond t73 (
A.call 39 [(.i (.ofNat 2)), (.i (.ofNat 1))] h70 (fun l74 h75 =>
A.unI l74 (fun n76 l77 =>
A.unI l77 (fun n78 l79 =>
A.un0 l79 (
A.call 18 [(.i n76), (.i n78), (.i (.ofNat 1)), (.i n71)] h75 (fun l80 h81 =>
A.unI l80 (fun n82 l83 =>
A.unI l83 (fun n84 l85 =>
A.un0 l85 (
A.new (.cells [(.int .i64 (.ofNat 7)), (.int .i64 (.ofNat 0)), (.int .i64 (.ofNat 2))] 1 true) h81 (fun m86 h87 =>
A.opt (idS 1 (.slice (some ⟨m86, 0, (some 11)⟩) 3 4) n71) (fun x88 =>
A.peek (ldP 1 x88) h87 (fun l89 =>
A.ucI .i64 l89 (fun n90 l91 =>
A.uc0 l91 (
A.cmp .neq n82 n90 (fun t92 =>
A.cond t92 (
K [(.b false)] h87) (
A.cmp .neq n84 (.ofNat 0) (fun t93 =>
A.cond t93 (
K [(.b false)] h87) (
A.ari .add .u8 n71 (.ofNat 1) (fun n94 =>
s68 [(.i n94)] h87))))))))))))))))))) (
A.call 39 [(.i (.ofNat 1)), (.i (.ofNat 1))] h70 (fun l95 h96 =>
A.unI l95 (fun n97 l98 =>
A.unI l98 (fun n99 l100 =>
A.un0 l100 (
A.call 23 [(.i n97), (.i n99)] h96 (fun l101 h102 =>
A.unV l101 (fun x103 l104 =>
A.unI l104 (fun n105 l106 =>
A.un0 l106 (
A.call 39 [(.i (.ofNat 2)), (.i (.ofNat 2))] h102 (fun l107 h108 =>
A.unI l107 (fun n109 l110 =>
A.unI l110 (fun n111 l112 =>
A.un0 l112 (
A.call 29 [(.i n109), (.i n111)] h108 (fun l113 h114 =>
A.unV l113 (fun x115 l116 =>
A.unI l116 (fun n117 l118 =>
A.un0 l118 (
A.opt (lenS x103) (fun x119 =>
A.cmp .neq x119 (.ofNat 4) (fun t120 =>
A.cond t120 (
K [(.b false)] h114) (
A.opt (idS 2 x103 (.ofNat 0)) (fun x121 =>
A.peek (ldP 2 x121) h114 (fun l122 =>
A.ucI .i64 l122 (fun n123 l124 =>
A.ucI .u8 l124 (fun n125 l126 =>
A.uc0 l126 (
A.call 22 [(.i (.ofNat 0)), (.i (.ofNat 1))] h114 (fun l127 h128 =>
A.unI l127 (fun n129 l130 =>
A.unI l130 (fun n131 l132 =>
A.un0 l132 (
A.eqs [((.i n123), (.i n129)), ((.i n125), (.i n131))] (fun t133 =>
A.cond (!t133) (
K [(.b false)] h128) (
A.opt (idS 2 x103 (.ofNat 1)) (fun x134 =>
A.peek (ldP 2 x134) h128 (fun l135 =>
A.ucI .i64 l135 (fun n136 l137 =>
A.ucI .u8 l137 (fun n138 l139 =>
A.uc0 l139 (
A.call 22 [(.i (.ofNat 0)), (.i (.ofNat 2))] h128 (fun l140 h141 =>
A.unI l140 (fun n142 l143 =>
A.unI l143 (fun n144 l145 =>
A.un0 l145 (
A.eqs [((.i n136), (.i n142)), ((.i n138), (.i n144))] (fun t146 =>
A.cond (!t146) (
K [(.b false)] h141) (
A.opt (idS 2 x103 (.ofNat 2)) (fun x147 =>
A.peek (ldP 2 x147) h141 (fun l148 =>
A.ucI .i64 l148 (fun n149 l150 =>
A.ucI .u8 l150 (fun n151 l152 =>
A.uc0 l152 (
A.call 22 [(.i (.ofNat 1)), (.i (.ofNat 2))] h141 (fun l153 h154 =>
A.unI l153 (fun n155 l156 =>
A.unI l156 (fun n157 l158 =>
A.un0 l158 (
A.eqs [((.i n149), (.i n155)), ((.i n151), (.i n157))] (fun t159 =>
A.cond (!t159) (
K [(.b false)] h154) (
A.opt (idS 2 x103 (.ofNat 3)) (fun x160 =>
A.peek (ldP 2 x160) h154 (fun l161 =>
A.ucI .i64 l161 (fun n162 l163 =>
A.ucI .u8 l163 (fun n164 l165 =>
A.uc0 l165 (
A.call 22 [(.i (.ofNat 2)), (.i (.ofNat 1))] h154 (fun l166 h167 =>
A.unI l166 (fun n168 l169 =>
A.unI l169 (fun n170 l171 =>
A.un0 l171 (
A.eqs [((.i n162), (.i n168)), ((.i n164), (.i n170))] (fun t172 =>
A.cond (!t172) (
K [(.b false)] h167) (
A.opt (lenS x115) (fun x173 =>
A.cmp .neq x173 (.ofNat 5) (fun t174 =>
A.cond t174 (
K [(.b false)] h167) (
A.opt (idS 2 x115 (.ofNat 0)) (fun x175 =>
A.peek (ldP 2 x175) h167 (fun l176 =>
A.ucI .i64 l176 (fun n177 l178 =>
A.ucI .i64 l178 (fun n179 l180 =>
A.uc0 l180 (
A.eqs [((.i n177), (.i (.ofNat 1))), ((.i n179), (.i (.ofNat 1)))] (fun t181 =>
A.cond (!t181) (
K [(.b false)] h167) (
A.opt (idS 2 x115 (.ofNat 1)) (fun x182 =>
A.peek (ldP 2 x182) h167 (fun l183 =>
A.ucI .i64 l183 (fun n184 l185 =>
A.ucI .i64 l185 (fun n186 l187 =>
A.uc0 l187 (
A.eqs [((.i n184), (.i (.ofNat 3))), ((.i n186), (.i (.ofNat 1)))] (fun t188 =>
A.cond (!t188) (
K [(.b false)] h167) (
A.opt (idS 2 x115 (.ofNat 2)) (fun x189 =>
A.peek (ldP 2 x189) h167 (fun l190 =>
A.ucI .i64 l190 (fun n191 l192 =>
A.ucI .i64 l192 (fun n193 l194 =>
A.uc0 l194 (
A.eqs [((.i n191), (.i (.ofNat 2))), ((.i n193), (.i (.ofNat 2)))] (fun t195 =>
A.cond (!t195) (
K [(.b false)] h167) (
A.opt (idS 2 x115 (.ofNat 3)) (fun x196 =>
A.peek (ldP 2 x196) h167 (fun l197 =>
A.ucI .i64 l197 (fun n198 l199 =>
A.ucI .i64 l199 (fun n200 l201 =>
A.uc0 l201 (
A.eqs [((.i n198), (.i (.ofNat 1))), ((.i n200), (.i (.ofNat 3)))] (fun t202 =>
A.cond (!t202) (
K [(.b false)] h167) (
A.opt (idS 2 x115 (.ofNat 4)) (fun x203 =>
A.peek (ldP 2 x203) h167 (fun l204 =>
A.ucI .i64 l204 (fun n205 l206 =>
A.ucI .i64 l206 (fun n207 l208 =>
A.uc0 l208 (
A.eqs [((.i n205), (.i (.ofNat 3))), ((.i n207), (.i (.ofNat 3)))] (fun t209 =>
A.cond (!t209) (
K [(.b false)] h167) (
A.call 39 [(.i (.ofNat 1)), (.i (.ofNat 1))] h167 (fun l210 h211 =>
A.unI l210 (fun n212 l213 =>
A.unI l213 (fun n214 l215 =>
A.un0 l215 (
A.call 22 [(.i (.ofNat 0)), (.i (.ofNat 1))] h211 (fun l216 h217 =>
A.unI l216 (fun n218 l219 =>
A.unI l219 (fun n220 l221 =>
A.un0 l221 (
A.call 26 [(.i n212), (.i n214), (.i n218), (.i n220)] h217 (fun l222 h223 =>
A.unI l222 (fun n224 l225 =>
A.unI l225 (fun n226 l227 =>
A.unI l227 (fun n228 l229 =>
A.un0 l229 (
A.call 39 [(.i (.ofNat 1)), (.i (.ofNat 1))] h223 (fun l230 h231 =>
A.unI l230 (fun n232 l233 =>
A.unI l233 (fun n234 l235 =>
A.un0 l235 (
A.call 22 [(.i (.ofNat 0)), (.i (.ofNat 1))] h231 (fun l236 h237 =>
A.unI l236 (fun n238 l239 =>
A.unI l239 (fun n240 l241 =>
A.un0 l241 (
A.call 25 [(.i n232), (.i n234), (.i n238), (.i n240)] h237 (fun l242 h243 =>
A.unI l242 (fun n244 l245 =>
A.unI l245 (fun n246 l247 =>
A.unI l247 (fun n248 l249 =>
A.unI l249 (fun n250 l251 =>
A.unI l251 (fun n252 l253 =>
A.un0 l253 (
A.call 39 [(.i (.ofNat 2)), (.i (.ofNat 1))] h243 (fun l254 h255 =>
A.unI l254 (fun n256 l257 =>
A.unI l257 (fun n258 l259 =>
A.un0 l259 (
A.call 22 [(.i (.ofNat 1)), (.i (.ofNat 0))] h255 (fun l260 h261 =>
A.unI l260 (fun n262 l263 =>
A.unI l263 (fun n264 l265 =>
A.un0 l265 (
A.call 26 [(.i n256), (.i n258), (.i n262), (.i n264)] h261 (fun l266 h267 =>
A.unI l266 (fun n268 l269 =>
A.unI l269 (fun n270 l271 =>
A.unI l271 (fun n272 l273 =>
A.un0 l273 (
A.call 39 [(.i (.ofNat 2)), (.i (.ofNat 1))] h267 (fun l274 h275 =>
A.unI l274 (fun n276 l277 =>
A.unI l277 (fun n278 l279 =>
A.un0 l279 (
A.call 22 [(.i (.ofNat 1)), (.i (.ofNat 0))] h275 (fun l280 h281 =>
A.unI l280 (fun n282 l283 =>
A.unI l283 (fun n284 l285 =>
A.un0 l285 (
A.call 25 [(.i n276), (.i n278), (.i n282), (.i n284)] h281 (fun l286 h287 =>
A.unI l286 (fun n288 l289 =>
A.unI l289 (fun n290 l291 =>
A.unI l291 (fun n292 l293 =>
A.unI l293 (fun n294 l295 =>
A.unI l295 (fun n296 l297 =>
A.un0 l297 (
A.eqs [((.i n224), (.i (.ofNat 3))), ((.i n226), (.i (.ofNat 1)))] (fun t298 =>
A.cond (!t298) (
K [(.b false)] h287) (
A.eqs [((.i n244), (.i (.ofNat 1))), ((.i n246), (.i (.ofNat 1))), ((.i n248), (.i (.ofNat 2))), ((.i n250), (.i (.ofNat 0)))] (fun t299 =>
A.cond (!t299) (
K [(.b false)] h287) (
A.eqs [((.i n268), (.i (.ofNat 1))), ((.i n270), (.i (.ofNat 1)))] (fun t300 =>
A.cond (!t300) (
K [(.b false)] h287) (
A.eqs [((.i n288), (.i (.ofNat 2))), ((.i n290), (.i (.ofNat 0))), ((.i n292), (.i (.ofNat 2))), ((.i n294), (.i (.ofNat 2)))] (fun t301 =>
A.cond (!t301) (
K [(.b false)] h287) (
A.call 39 [(.i (.ofNat 2)), (.i (.ofNat 1))] h287 (fun l302 h303 =>
A.unI l302 (fun n304 l305 =>
A.unI l305 (fun n306 l307 =>
A.un0 l307 (
A.call 18 [(.i n304), (.i n306), (.i (.ofNat 0)), (.i (.ofNat 0))] h303 (fun l308 h309 =>
A.unI l308 (fun n310 l311 =>
A.unI l311 (fun n312 l313 =>
A.un0 l313 (
A.call 39 [(.i (.ofNat 2)), (.i (.ofNat 1))] h309 (fun l314 h315 =>
A.unI l314 (fun n316 l317 =>
A.unI l317 (fun n318 l319 =>
A.un0 l319 (
A.call 18 [(.i n316), (.i n318), (.i (.ofNat 0)), (.i (.ofNat 3))] h315 (fun l320 h321 =>
A.unI l320 (fun n322 l323 =>
A.unI l323 (fun n324 l325 =>
A.un0 l325 (
A.call 39 [(.i (.ofNat 2)), (.i (.ofNat 1))] h321 (fun l326 h327 =>
A.unI l326 (fun n328 l329 =>
A.unI l329 (fun n330 l331 =>
A.un0 l331 (
A.call 18 [(.i n328), (.i n330), (.i (.ofNat 8)), (.i (.ofNat 0))] h327 (fun l332 h333 =>
A.unI l332 (fun n334 l335 =>
A.unI l335 (fun n336 l337 =>
A.un0 l337 (
A.join (fun l338 h339 =>
A.unB l338 (fun t340 l341 =>
A.un0 l341 (
K [(.b t340)] h339))) (fun j342 =>
A.cmp .eql n312 (.ofNat 7) (fun t343 =>
A.cond t343 (
A.cmp .eql n324 (.ofNat 1) (fun t344 =>
A.cond t344 (
A.cmp .eql n336 (.ofNat 7) (fun t345 =>
A.cond t345 (
A.call 39 [(.i (.ofNat 16)), (.i (.ofNat 16))] h333 (fun l346 h347 =>
A.unI l346 (fun n348 l349 =>
A.unI l349 (fun n350 l351 =>
A.un0 l351 (
A.call 33 [(.i n348), (.i n350)] h347 (fun l352 h353 =>
A.unI l352 (fun n354 l355 =>
A.un0 l355 (
A.cmp .eql n354 (.ofNat 0) (fun t356 =>
A.cond t356 (
A.call 39 [(.i (.ofNat 256)), (.i (.ofNat 1))] h353 (fun l357 h358 =>
A.unI l357 (fun n359 l360 =>
A.unI l360 (fun n361 l362 =>
A.un0 l362 (
A.call 33 [(.i n359), (.i n361)] h358 (fun l363 h364 =>
A.unI l363 (fun n365 l366 =>
A.un0 l366 (
A.cmp .eql n365 (.ofNat 0) (fun t367 =>
A.cond t367 (
A.call 39 [(.i (.ofNat 17)), (.i (.ofNat 16))] h364 (fun l368 h369 =>
A.unI l368 (fun n370 l371 =>
A.unI l371 (fun n372 l373 =>
A.un0 l373 (
A.call 33 [(.i n370), (.i n372)] h369 (fun l374 h375 =>
A.unI l374 (fun n376 l377 =>
A.un0 l377 (
A.cmp .eql n376 (.ofNat 1) (fun t378 =>
A.cond t378 (
A.call 39 [(.i (.ofNat 0)), (.i (.ofNat 1))] h375 (fun l379 h380 =>
A.unI l379 (fun n381 l382 =>
A.unI l382 (fun n383 l384 =>
A.un0 l384 (
A.call 33 [(.i n381), (.i n383)] h380 (fun l385 h386 =>
A.unI l385 (fun n387 l388 =>
A.un0 l388 (
A.cmp .eql n387 (.ofNat 1) (fun t389 =>
j342 [(.b t389)] h386))))))))) (
j342 [(.b false)] h375)))))))))) (
j342 [(.b false)] h364)))))))))) (
j342 [(.b false)] h353)))))))))) (
j342 [(.b false)] h333))) (
j342 [(.b false)] h333))) (
j342 [(.b false)] h333))))))))))))))))))))))))))))))))))))))))))))))))))))))))))))))))))))))))))))))))))))))))))))))))))))))))))))))))))))))))))))))))))))))))))))))))))))))))))))))))))))))))))))))))))))))))))))))))))))) [(.i (.ofNat 0))] h62)))))))))))))))))))))))))))))))))))))))))))))))

/-- crimp/crimplaw05.unit -/
noncomputable def f22 (ls : List Lf) (h : HT) (K : List Lf → HT → R) : R :=
A.unI ls (fun n6 l7 =>
A.unI l7 (fun n8 l9 =>
A.un0 l9 (
K [(.i n6), (.i n8)] h)))

/-- crimp/sheets.Units -/
noncomputable def f23 (ls : List Lf) (h : HT) (K : List Lf → HT → R) : R :=
A.unI ls (fun n6 l7 =>
A.unI l7 (fun n8 l9 =>
A.un0 l9 (
A.call 33 [(.i n6), (.i n8)] h (fun l10 h11 =>
A.unI l10 (fun n12 l13 =>
A.un0 l13 (
A.cmp .neq n12 (.ofNat 0) (fun t14 =>
A.cond t14 (
K [(.v (.slice none 0 0)), (.i n12)] h11) (
A.new (.cells [(.slice none 0 0)] 1 true) h11 (fun m15 h16 =>
A.call 67 [(.i n6), (.i n8)] h16 (fun l17 h18 =>
A.unV l17 (fun x19 l20 =>
A.un0 l20 (
A.rfun 368 x19 [(.pointer (some ⟨m15, 0, none⟩))] h18 (fun p21 h22 =>
A.pend p21 (
A.peek (ldP 1 (.pointer (some ⟨m15, 0, none⟩))) h22 (fun l23 =>
A.ucV l23 (fun x24 l25 =>
A.chk x24 (
A.uc0 l25 (
A.call 68 [(.v x24)] h22 (fun l26 h27 =>
A.unV l26 (fun x28 l29 =>
A.un0 l29 (
K [(.v x28), (.i (.ofNat 0))] h27)))))))) (
K [(.v (.slice none 0 0)), (.i (.ofNat 0))] h22) [])))))))))))))

/-- crimp/crimpref05.Units -/
noncomputable def f24 (ls : List Lf) (h : HT) (K : List Lf → HT → R) : R :=
A.unI ls (fun n6 l7 =>
A.unI l7 (fun n8 l9 =>
A.un0 l9 (
A.loop (fun s10 l11 h12 =>
A.unV l11 (fun x13 l14 =>
A.unI l14 (fun n15 l16 =>
A.un0 l16 (
A.ari .mul .i64 (.ofNat 4) n6 (fun n17 =>
A.ari .mul .i64 n17 n8 (fun n18 =>
A.cmp .lss n15 n18 (fun t19 =>
A.cond t19 (
A.loop (fun s20 l21 h22 =>
A.unV l21 (fun x23 l24 =>
A.unI l24 (fun n25 l26 =>
A.un0 l26 (
A.cmp .lss n25 (.ofNat 3) (fun t27 =>
A.cond t27 (
A.call 20 [(.i n6), (.i n8), (.i n15), (.i n25)] h22 (fun l28 h29 =>
A.unI l28 (fun n30 l31 =>
A.un0 l31 (
A.cmp .gtr n30 n15 (fun t32 =>
A.join (fun l33 h34 =>
A.unV l33 (fun x35 l36 =>
A.un0 l36 (
A.ari .add .i64 n25 (.ofNat 1) (fun n37 =>
s20 [(.v x35), (.i n37)] h34)))) (fun j38 =>
A.cond t32 (
A.conv .u8 n25 (fun n39 =>
A.new (.cells [(.int .i64 n15), (.int .u8 n39)] 2 true) h29 (fun m40 h41 =>
A.heap (apG cc 2 16 x23 (.slice (some ⟨m40, 0, (some 12)⟩) 1 2)) h41 (fun l42 h43 =>
A.ucV l42 (fun x44 l45 =>
A.chk x44 (
A.uc0 l45 (
j38 [(.v x44)] h43))))))) (
j38 [(.v x23)] h29))))))) (
A.ari .add .i64 n15 (.ofNat 1) (fun n46 =>
s10 [(.v x23), (.i n46)] h22))))))) [(.v x13), (.i (.ofNat 0))] h12) (
K [(.v x13)] h12)))))))) [(.v (.slice none 0 0)), (.i (.ofNat 0))] h)))

/-- crimp/sheets.Ends -/
noncomputable def f25 (ls : List Lf) (h : HT) (K : List Lf → HT → R) : R :=
A.unI ls (fun n6 l7 =>
A.unI l7 (fun n8 l9 =>
A.unI l9 (fun n10 l11 =>
A.unI l11 (fun n12 l13 =>
A.un0 l13 (
A.call 69 [(.i n6), (.i n8), (.i n10), (.i n12)] h (fun l14 h15 =>
A.unI l14 (fun n16 l17 =>
A.unI l17 (fun n18 l19 =>
A.unI l19 (fun n20 l21 =>
A.unI l21 (fun n22 l23 =>
A.un0 l23 (
A.cmp .neq n22 (.ofNat 0) (fun t24 =>
A.cond t24 (
K [(.i (.ofNat 0)), (.i (.ofNat 0)), (.i (.ofNat 0)), (.i (.ofNat 0)), (.i n22)] h15) (
A.call 41 [(.i n16), (.i n18), (.i n20)] h15 (fun l25 h26 =>
A.unI l25 (fun n27 l28 =>
A.unI l28 (fun n29 l30 =>
A.unI l30 (fun n31 l32 =>
A.unI l32 (fun n33 l34 =>
A.unI l34 (fun n35 l36 =>
A.unI l36 (fun n37 l38 =>
A.unI l38 (fun n39 l40 =>
A.un0 l40 (
A.ari .add .u8 n12 (.ofNat 1) (fun n41 =>
A.ari .rem .u8 n41 (.ofNat 3) (fun n42 =>
A.opt (inB 3 n42) (fun x43 =>
A.opt (pickL [(.i n27), (.i n29), (.i n31), (.i n33), (.i n35), (.i n37)] 0 [(n42, 2)] 2) (fun x44 =>
A.unI x44 (fun n45 l46 =>
A.unI l46 (fun n47 l48 =>
A.un0 l48 (
A.ari .add .u8 n12 (.ofNat 2) (fun n49 =>
A.ari .rem .u8 n49 (.ofNat 3) (fun n50 =>
A.opt (inB 3 n50) (fun x51 =>
A.opt (pickL [(.i n27), (.i n29), (.i n31), (.i n33), (.i n35), (.i n37)] 0 [(n50, 2)] 2) (fun x52 =>
A.unI x52 (fun n53 l54 =>
A.unI l54 (fun n55 l56 =>
A.un0 l56 (
A.cmp .lss n53 n45 (fun t57 =>
A.cond t57 (
K [(.i n53), (.i n55), (.i n45), (.i n47), (.i (.ofNat 0))] h26) (
A.cmp .eql n53 n45 (fun t58 =>
A.cond t58 (
A.cmp .lss n55 n47 (fun t59 =>
A.join (fun l60 h61 =>
A.unI l60 (fun n62 l63 =>
A.unI l63 (fun n64 l65 =>
A.unI l65 (fun n66 l67 =>
A.unI l67 (fun n68 l69 =>
A.un0 l69 (
K [(.i n62), (.i n64), (.i n66), (.i n68), (.i (.ofNat 0))] h61)))))) (fun j70 =>
A.cond t59 (
j70 [(.i n53), (.i n55), (.i n45), (.i n47)] h26) (
j70 [(.i n45), (.i n47), (.i n53), (.i n55)] h26)))) (
K [(.i n45), (.i n47), (.i n53), (.i n55), (.i (.ofNat 0))] h26))))))))))))))))))))))))))))))))))))))))

/-- crimp/sheets.Line -/
noncomputable def f26 (ls : List Lf) (h : HT) (K : List Lf → HT → R) : R :=
A.unI ls (fun n6 l7 =>
A.unI l7 (fun n8 l9 =>
A.unI l9 (fun n10 l11 =>
A.unI l11 (fun n12 l13 =>
A.un0 l13 (
A.call 69 [(.i n6), (.i n8), (.i n10), (.i n12)] h (fun l14 h15 =>
A.unI l14 (fun n16 l17 =>
A.unI l17 (fun n18 l19 =>
A.unI l19 (fun n20 l21 =>
A.unI l21 (fun n22 l23 =>
A.un0 l23 (
A.cmp .neq n22 (.ofNat 0) (fun t24 =>
A.cond t24 (
K [(.i (.ofNat 0)), (.i (.ofNat 0)), (.i n22)] h15) (
A.call 40 [(.i n16), (.i n18), (.i n20), (.i n12)] h15 (fun l25 h26 =>
A.unI l25 (fun n27 l28 =>
A.unI l28 (fun n29 l30 =>
A.unI l30 (fun n31 l32 =>
A.un0 l32 (
K [(.i n27), (.i n29), (.i n31)] h26))))))))))))))))))

/-- crimp/crimpref05.Ends -/
noncomputable def f27 (ls : List Lf) (h : HT) (K : List Lf → HT → R) : R :=
A.unI ls (fun n6 l7 =>
A.unI l7 (fun n8 l9 =>
A.unI l9 (fun n10 l11 =>
A.unI l11 (fun n12 l13 =>
A.un0 l13 (
A.ari .quo .i64 n10 (.ofNat 4) (fun n14 =>
A.ari .rem .i64 n14 n6 (fun n15 =>
A.ari .mul .i64 (.ofNat 4) n6 (fun n16 =>
A.ari .quo .i64 n10 n16 (fun n17 =>
A.ari .rem .i64 n10 (.ofNat 4) (fun n18 =>
A.conv .u8 n18 (fun n19 =>
A.call 45 [(.i n15), (.i n17), (.i n19)] h (fun l20 h21 =>
A.unI l20 (fun n22 l23 =>
A.unI l23 (fun n24 l25 =>
A.unI l25 (fun n26 l27 =>
A.unI l27 (fun n28 l29 =>
A.unI l29 (fun n30 l31 =>
A.unI l31 (fun n32 l33 =>
A.un0 l33 (
A.conv .i64 n12 (fun n34 =>
A.call 49 [(.i n15), (.i n17), (.i n19), (.i n34)] h21 (fun l35 h36 =>
A.unI l35 (fun n37 l38 =>
A.unI l38 (fun n39 l40 =>
A.unI l40 (fun n41 l42 =>
A.un0 l42 (
A.call 45 [(.i n37), (.i n39), (.i n41)] h36 (fun l43 h44 =>
A.unI l43 (fun n45 l46 =>
A.unI l46 (fun n47 l48 =>
A.unI l48 (fun n49 l50 =>
A.unI l50 (fun n51 l52 =>
A.unI l52 (fun n53 l54 =>
A.unI l54 (fun n55 l56 =>
A.un0 l56 (
A.loop (fun s57 l58 h59 =>
A.unV l58 (fun x60 l61 =>
A.unI l61 (fun n62 l63 =>
A.un0 l63 (
A.cmp .lss n62 (.ofNat 3) (fun t64 =>
A.cond t64 (
A.loop (fun s65 l66 h67 =>
A.unV l66 (fun x68 l69 =>
A.unI l69 (fun n70 l71 =>
A.un0 l71 (
A.cmp .lss n70 (.ofNat 3) (fun t72 =>
A.cond t72 (
A.opt (inB 3 n62) (fun x73 =>
A.opt (pickL [(.i n22), (.i n24), (.i n26), (.i n28), (.i n30), (.i n32)] 0 [(n62, 2)] 2) (fun x74 =>
A.unI x74 (fun n75 l76 =>
A.unI l76 (fun n77 l78 =>
A.un0 l78 (
A.opt (inB 3 n70) (fun x79 =>
A.opt (pickL [(.i n45), (.i n47), (.i n49), (.i n51), (.i n53), (.i n55)] 0 [(n70, 2)] 2) (fun x80 =>
A.unI x80 (fun n81 l82 =>
A.unI l82 (fun n83 l84 =>
A.un0 l84 (
A.eqs [((.i n75), (.i n81)), ((.i n77), (.i n83))] (fun t85 =>
A.join (fun l86 h87 =>
A.unV l86 (fun x88 l89 =>
A.un0 l89 (
A.ari .add .i64 n70 (.ofNat 1) (fun n90 =>
s65 [(.v x88), (.i n90)] h87)))) (fun j91 =>
A.cond t85 (
A.opt (inB 3 n62) (fun x92 =>
A.opt (pickL [(.i n22), (.i n24), (.i n26), (.i n28), (.i n30), (.i n32)] 0 [(n62, 2)] 2) (fun x93 =>
A.unI x93 (fun n94 l95 =>
A.unI l95 (fun n96 l97 =>
A.un0 l97 (
A.new (.cells [(.int .i64 n94), (.int .i64 n96)] 2 true) h67 (fun m98 h99 =>
A.heap (apG cc 2 16 x68 (.slice (some ⟨m98, 0, (some 12)⟩) 1 2)) h99 (fun l100 h101 =>
A.ucV l100 (fun x102 l103 =>
A.chk x102 (
A.uc0 l103 (
j91 [(.v x102)] h101))))))))))) (
j91 [(.v x68)] h67)))))))))))))) (
A.ari .add .i64 n62 (.ofNat 1) (fun n104 =>
s57 [(.v x68), (.i n104)] h67))))))) [(.v x60), (.i (.ofNat 0))] h59) (
A.opt (idS 2 x60 (.ofNat 1)) (fun x105 =>
A.opt (fdP 0 x105) (fun x106 =>
A.chk x106 (
A.peek (ldP 1 x106) h59 (fun l107 =>
A.ucI .i64 l107 (fun n108 l109 =>
A.uc0 l109 (
A.opt (idS 2 x60 (.ofNat 0)) (fun x110 =>
A.opt (fdP 0 x110) (fun x111 =>
A.chk x111 (
A.peek (ldP 1 x111) h59 (fun l112 =>
A.ucI .i64 l112 (fun n113 l114 =>
A.uc0 l114 (
A.cmp .lss n108 n113 (fun t115 =>
A.cond t115 (
A.opt (idS 2 x60 (.ofNat 1)) (fun x116 =>
A.peek (ldP 2 x116) h59 (fun l117 =>
A.ucI .i64 l117 (fun n118 l119 =>
A.ucI .i64 l119 (fun n120 l121 =>
A.uc0 l121 (
A.opt (idS 2 x60 (.ofNat 0)) (fun x122 =>
A.peek (ldP 2 x122) h59 (fun l123 =>
A.ucI .i64 l123 (fun n124 l125 =>
A.ucI .i64 l125 (fun n126 l127 =>
A.uc0 l127 (
K [(.i n118), (.i n120), (.i n124), (.i n126)] h59))))))))))) (
A.opt (idS 2 x60 (.ofNat 1)) (fun x128 =>
A.opt (fdP 0 x128) (fun x129 =>
A.chk x129 (
A.peek (ldP 1 x129) h59 (fun l130 =>
A.ucI .i64 l130 (fun n131 l132 =>
A.uc0 l132 (
A.opt (idS 2 x60 (.ofNat 0)) (fun x133 =>
A.opt (fdP 0 x133) (fun x134 =>
A.chk x134 (
A.peek (ldP 1 x134) h59 (fun l135 =>
A.ucI .i64 l135 (fun n136 l137 =>
A.uc0 l137 (
A.cmp .eql n131 n136 (fun t138 =>
A.cond t138 (
A.opt (idS 2 x60 (.ofNat 1)) (fun x139 =>
A.opt (fdP 1 x139) (fun x140 =>
A.chk x140 (
A.peek (ldP 1 x140) h59 (fun l141 =>
A.ucI .i64 l141 (fun n142 l143 =>
A.uc0 l143 (
A.opt (idS 2 x60 (.ofNat 0)) (fun x144 =>
A.opt (fdP 1 x144) (fun x145 =>
A.chk x145 (
A.peek (ldP 1 x145) h59 (fun l146 =>
A.ucI .i64 l146 (fun n147 l148 =>
A.uc0 l148 (
A.cmp .lss n142 n147 (fun t149 =>
A.cond t149 (
A.opt (idS 2 x60 (.ofNat 1)) (fun x150 =>
A.peek (ldP 2 x150) h59 (fun l151 =>
A.ucI .i64 l151 (fun n152 l153 =>
A.ucI .i64 l153 (fun n154 l155 =>
A.uc0 l155 (
A.opt (idS 2 x60 (.ofNat 0)) (fun x156 =>
A.peek (ldP 2 x156) h59 (fun l157 =>
A.ucI .i64 l157 (fun n158 l159 =>
A.ucI .i64 l159 (fun n160 l161 =>
A.uc0 l161 (
K [(.i n152), (.i n154), (.i n158), (.i n160)] h59))))))))))) (
A.opt (idS 2 x60 (.ofNat 0)) (fun x162 =>
A.peek (ldP 2 x162) h59 (fun l163 =>
A.ucI .i64 l163 (fun n164 l165 =>
A.ucI .i64 l165 (fun n166 l167 =>
A.uc0 l167 (
A.opt (idS 2 x60 (.ofNat 1)) (fun x168 =>
A.peek (ldP 2 x168) h59 (fun l169 =>
A.ucI .i64 l169 (fun n170 l171 =>
A.ucI .i64 l171 (fun n172 l173 =>
A.uc0 l173 (
K [(.i n164), (.i n166), (.i n170), (.i n172)] h59))))))))))))))))))))))))) (
A.opt (idS 2 x60 (.ofNat 0)) (fun x174 =>
A.peek (ldP 2 x174) h59 (fun l175 =>
A.ucI .i64 l175 (fun n176 l177 =>
A.ucI .i64 l177 (fun n178 l179 =>
A.uc0 l179 (
A.opt (idS 2 x60 (.ofNat 1)) (fun x180 =>
A.peek (ldP 2 x180) h59 (fun l181 =>
A.ucI .i64 l181 (fun n182 l183 =>
A.ucI .i64 l183 (fun n184 l185 =>
A.uc0 l185 (
K [(.i n176), (.i n178), (.i n182), (.i n184)] h59)))))))))))))))))))))))))))))))))))))))))))) [(.v (.slice none 0 0)), (.i (.ofNat 0))] h44)))))))))))))))))))))))))))))))))

/-- crimp/crimpref01.Far -/
noncomputable def f28 (ls : List Lf) (h : HT) (K : List Lf → HT → R) : R :=
A.unI ls (fun n6 l7 =>
A.unI l7 (fun n8 l9 =>
A.unI l9 (fun n10 l11 =>
A.unI l11 (fun n12 l13 =>
A.un0 l13 (
A.call 70 [(.i n6)] h (fun l14 h15 =>
A.unI l14 (fun n16 l17 =>
A.unI l17 (fun n18 l19 =>
A.un0 l19 (
A.ari .mul .i64 n16 n10 (fun n20 =>
A.ari .mul .i64 n18 n12 (fun n21 =>
A.ari .add .i64 n20 n21 (fun n22 =>
A.ari .mul .i64 (.ofNat 2) n8 (fun n23 =>
A.ari .sub .i64 n22 n23 (fun n24 =>
K [(.i n24)] h15))))))))))))))

/-- crimp/sheets.Points -/
noncomputable def f29 (ls : List Lf) (h : HT) (K : List Lf → HT → R) : R :=
A.unI ls (fun n6 l7 =>
A.unI l7 (fun n8 l9 =>
A.un0 l9 (
A.call 33 [(.i n6), (.i n8)] h (fun l10 h11 =>
A.unI l10 (fun n12 l13 =>
A.un0 l13 (
A.cmp .neq n12 (.ofNat 0) (fun t14 =>
A.cond t14 (
K [(.v (.slice none 0 0)), (.i n12)] h11) (
A.loop (fun s15 l16 h17 =>
A.unV l16 (fun x18 l19 =>
A.unI l19 (fun n20 l21 =>
A.un0 l21 (
A.ari .mul .i64 (.ofNat 2) n8 (fun n22 =>
A.cmp .lss n20 n22 (fun t23 =>
A.cond t23 (
A.loop (fun s24 l25 h26 =>
A.unV l25 (fun x27 l28 =>
A.unI l28 (fun n29 l30 =>
A.un0 l30 (
A.ari .mul .i64 (.ofNat 2) n6 (fun n31 =>
A.cmp .lss n29 n31 (fun t32 =>
A.cond t32 (
A.ari .rem .i64 n29 (.ofNat 2) (fun n33 =>
A.ari .rem .i64 n20 (.ofNat 2) (fun n34 =>
A.cmp .eql n33 n34 (fun t35 =>
A.join (fun l36 h37 =>
A.unV l36 (fun x38 l39 =>
A.un0 l39 (
A.ari .add .i64 n29 (.ofNat 1) (fun n40 =>
s24 [(.v x38), (.i n40)] h37)))) (fun j41 =>
A.cond t35 (
A.new (.cells [(.int .i64 n29), (.int .i64 n20)] 2 true) h26 (fun m42 h43 =>
A.heap (apG cc 2 16 x27 (.slice (some ⟨m42, 0, (some 12)⟩) 1 2)) h43 (fun l44 h45 =>
A.ucV l44 (fun x46 l47 =>
A.chk x46 (
A.uc0 l47 (
j41 [(.v x46)] h45)))))) (
j41 [(.v x27)] h26)))))) (
A.ari .add .i64 n20 (.ofNat 1) (fun n48 =>
s15 [(.v x27), (.i n48)] h26)))))))) [(.v x18), (.i (.ofNat 1))] h17) (
A.call 71 [(.v x18)] h17 (fun l49 h50 =>
A.unV l49 (fun x51 l52 =>
A.un0 l52 (
K [(.v x51), (.i (.ofNat 0))] h50)))))))))) [(.v (.slice none 0 0)), (.i (.ofNat 1))] h11))))))))

/-- crimp/crimpref05.Cells -/
noncomputable def f30 (ls : List Lf) (h : HT) (K : List Lf → HT → R) : R :=
A.unI ls (fun n6 l7 =>
A.unI l7 (fun n8 l9 =>
A.un0 l9 (
A.loop (fun s10 l11 h12 =>
A.unV l11 (fun x13 l14 =>
A.unI l14 (fun n15 l16 =>
A.un0 l16 (
A.cmp .lss n15 n8 (fun t17 =>
A.cond t17 (
A.loop (fun s18 l19 h20 =>
A.unV l19 (fun x21 l22 =>
A.unI l22 (fun n23 l24 =>
A.un0 l24 (
A.cmp .lss n23 n6 (fun t25 =>
A.cond t25 (
A.loop (fun s26 l27 h28 =>
A.unV l27 (fun x29 l30 =>
A.unI l30 (fun n31 l32 =>
A.un0 l32 (
A.cmp .lss n31 (.ofNat 4) (fun t33 =>
A.cond t33 (
A.new (.cells [(.int .i64 n23), (.int .i64 n15), (.int .u8 n31)] 3 true) h28 (fun m34 h35 =>
A.heap (apG cc 3 24 x29 (.slice (some ⟨m34, 0, (some 13)⟩) 1 2)) h35 (fun l36 h37 =>
A.ucV l36 (fun x38 l39 =>
A.chk x38 (
A.uc0 l39 (
A.ari .add .u8 n31 (.ofNat 1) (fun n40 =>
s26 [(.v x38), (.i n40)] h37))))))) (
A.ari .add .i64 n23 (.ofNat 1) (fun n41 =>
s18 [(.v x29), (.i n41)] h28))))))) [(.v x21), (.i (.ofNat 0))] h20) (
A.ari .add .i64 n15 (.ofNat 1) (fun n42 =>
s10 [(.v x21), (.i n42)] h20))))))) [(.v x13), (.i (.ofNat 0))] h12) (
K [(.v x13)] h12)))))) [(.v (.slice none 0 0)), (.i (.ofNat 0))] h)))

/-- crimp/crimpref03.Line -/
noncomputable def f31 (ls : List Lf) (h : HT) (K : List Lf → HT → R) : R :=
A.unI ls (fun n6 l7 =>
A.unI l7 (fun n8 l9 =>
A.unI l9 (fun n10 l11 =>
A.unI l11 (fun n12 l13 =>
A.un0 l13 (
A.call 45 [(.i n6), (.i n8), (.i n10)] h (fun l14 h15 =>
A.unI l14 (fun n16 l17 =>
A.unI l17 (fun n18 l19 =>
A.unI l19 (fun n20 l21 =>
A.unI l21 (fun n22 l23 =>
A.unI l23 (fun n24 l25 =>
A.unI l25 (fun n26 l27 =>
A.un0 l27 (
A.ari .add .i64 n12 (.ofNat 1) (fun n28 =>
A.ari .rem .i64 n28 (.ofNat 3) (fun n29 =>
A.opt (inB 3 n29) (fun x30 =>
A.opt (pickL [(.i n16), (.i n18), (.i n20), (.i n22), (.i n24), (.i n26)] 0 [(n29, 2)] 2) (fun x31 =>
A.unI x31 (fun n32 l33 =>
A.unI l33 (fun n34 l35 =>
A.un0 l35 (
A.ari .add .i64 n12 (.ofNat 2) (fun n36 =>
A.ari .rem .i64 n36 (.ofNat 3) (fun n37 =>
A.opt (inB 3 n37) (fun x38 =>
A.opt (pickL [(.i n16), (.i n18), (.i n20), (.i n22), (.i n24), (.i n26)] 0 [(n37, 2)] 2) (fun x39 =>
A.unI x39 (fun n40 l41 =>
A.unI l41 (fun n42 l43 =>
A.un0 l43 (
A.loop (fun s44 l45 h46 =>
A.unI l45 (fun n47 l48 =>
A.unI l48 (fun n49 l50 =>
A.unI l50 (fun n51 l52 =>
A.un0 l52 (
A.cmp .leq n47 (.ofNat 4) (fun t53 =>
A.cond t53 (
A.call 70 [(.i n47)] h46 (fun l54 h55 =>
A.unI l54 (fun n56 l57 =>
A.unI l57 (fun n58 l59 =>
A.un0 l59 (
A.ari .mul .i64 n56 n32 (fun n60 =>
A.ari .mul .i64 n58 n34 (fun n61 =>
A.ari .add .i64 n60 n61 (fun n62 =>
A.ari .mul .i64 n56 n40 (fun n63 =>
A.ari .mul .i64 n58 n42 (fun n64 =>
A.ari .add .i64 n63 n64 (fun n65 =>
A.cmp .eql n62 n65 (fun t66 =>
A.join (fun l67 h68 =>
A.unI l67 (fun n69 l70 =>
A.unI l70 (fun n71 l72 =>
A.un0 l72 (
A.ari .add .u8 n47 (.ofNat 1) (fun n73 =>
s44 [(.i n73), (.i n69), (.i n71)] h68))))) (fun j74 =>
A.cond t66 (
A.ari .mul .i64 n56 n32 (fun n75 =>
A.ari .mul .i64 n58 n34 (fun n76 =>
A.ari .add .i64 n75 n76 (fun n77 =>
A.ari .quo .i64 n77 (.ofNat 2) (fun n78 =>
j74 [(.i n47), (.i n78)] h55))))) (
j74 [(.i n49), (.i n51)] h55)))))))))))))) (
K [(.i n49), (.i n51)] h46))))))) [(.i (.ofNat 1)), (.i (.ofNat 0)), (.i (.ofNat 0))] h15)))))))))))))))))))))))))))

/-- crimp/crimpref05.Valid -/
noncomputable def f32 (ls : List Lf) (h : HT) (K : List Lf → HT → R) : R :=
A.unI ls (fun n6 l7 =>
A.unI l7 (fun n8 l9 =>
A.un0 l9 (
A.cmp .lss n6 (.ofNat 1) (fun t10 =>
A.cond t10 (
K [(.i (.ofNat 0))] h) (
A.cmp .lss n8 (.ofNat 1) (fun t11 =>
A.cond t11 (
K [(.i (.ofNat 0))] h) (
A.cmp .gtr n6 (.ofNat 256) (fun t12 =>
A.cond t12 (
K [(.i (.ofNat 0))] h) (
A.cmp .gtr n8 (.ofNat 256) (fun t13 =>
A.cond t13 (
K [(.i (.ofNat 0))] h) (
A.ari .mul .i64 n6 n8 (fun n14 =>
A.cmp .gtr n14 (.ofNat 256) (fun t15 =>
A.cond t15 (
K [(.i (.ofNat 0))] h) (
K [(.i (.ofNat 1))] h))))))))))))))

/-- crimp/sheets.Check -/
noncomputable def f33 (ls : List Lf) (h : HT) (K : List Lf → HT → R) : R :=
A.unI ls (fun n6 l7 =>
A.unI l7 (fun n8 l9 =>
A.un0 l9 (
A.cmp .lss n6 (.ofNat 1) (fun t10 =>
A.cond t10 (
K [(.i (.ofNat 1))] h) (
A.cmp .lss n8 (.ofNat 1) (fun t11 =>
A.cond t11 (
K [(.i (.ofNat 1))] h) (
A.cmp .gtr n6 (.ofNat 256) (fun t12 =>
A.cond t12 (
K [(.i (.ofNat 1))] h) (
A.cmp .gtr n8 (.ofNat 256) (fun t13 =>
A.cond t13 (
K [(.i (.ofNat 1))] h) (
A.ari .mul .i64 n6 n8 (fun n14 =>
A.cmp .gtr n14 (.ofNat 256) (fun t15 =>
A.cond t15 (
K [(.i (.ofNat 1))] h) (
K [(.i (.ofNat 0))] h))))))))))))))

/-- crimp/sheets.Count -/
noncomputable def f34 (ls : List Lf) (h : HT) (K : List Lf → HT → R) : R :=
A.unI ls (fun n6 l7 =>
A.unI l7 (fun n8 l9 =>
A.un0 l9 (
A.call 33 [(.i n6), (.i n8)] h (fun l10 h11 =>
A.unI l10 (fun n12 l13 =>
A.un0 l13 (
A.cmp .neq n12 (.ofNat 0) (fun t14 =>
A.cond t14 (
K [(.i (.ofNat 0))] h11) (
A.ari .mul .i64 (.ofNat 4) n6 (fun n15 =>
A.ari .mul .i64 n15 n8 (fun n16 =>
K [(.i n16)] h11))))))))))

/-- crimp/sheets.Cell -/
noncomputable def f35 (ls : List Lf) (h : HT) (K : List Lf → HT → R) : R :=
A.unI ls (fun n6 l7 =>
A.unI l7 (fun n8 l9 =>
A.unI l9 (fun n10 l11 =>
A.un0 l11 (
A.call 33 [(.i n6), (.i n8)] h (fun l12 h13 =>
A.unI l12 (fun n14 l15 =>
A.un0 l15 (
A.cmp .neq n14 (.ofNat 0) (fun t16 =>
A.cond t16 (
K [(.i (.ofNat 0)), (.i (.ofNat 0)), (.i (.ofNat 0)), (.i n14)] h13) (
A.call 72 [(.i n6), (.i n8), (.i n10)] h13 (fun l17 h18 =>
A.unB l17 (fun t19 l20 =>
A.un0 l20 (
A.cond (!t19) (
K [(.i (.ofNat 0)), (.i (.ofNat 0)), (.i (.ofNat 0)), (.i (.ofNat 7))] h18) (
A.call 73 [(.i n6), (.i n8), (.i n10)] h18 (fun l21 h22 =>
A.unI l21 (fun n23 l24 =>
A.unI l24 (fun n25 l26 =>
A.unI l26 (fun n27 l28 =>
A.un0 l28 (
K [(.i n23), (.i n25), (.i n27), (.i (.ofNat 0))] h22))))))))))))))))))

/-- crimp/sheets.Id -/
noncomputable def f36 (ls : List Lf) (h : HT) (K : List Lf → HT → R) : R :=
A.unI ls (fun n6 l7 =>
A.unI l7 (fun n8 l9 =>
A.unI l9 (fun n10 l11 =>
A.unI l11 (fun n12 l13 =>
A.unI l13 (fun n14 l15 =>
A.un0 l15 (
A.call 33 [(.i n6), (.i n8)] h (fun l16 h17 =>
A.unI l16 (fun n18 l19 =>
A.un0 l19 (
A.cmp .neq n18 (.ofNat 0) (fun t20 =>
A.cond t20 (
K [(.i (.ofNat 0)), (.i n18)] h17) (
A.call 43 [(.i n10), (.i n12), (.i n14)] h17 (fun l21 h22 =>
A.unI l21 (fun n23 l24 =>
A.un0 l24 (
A.cmp .neq n23 (.ofNat 0) (fun t25 =>
A.cond t25 (
K [(.i (.ofNat 0)), (.i (.ofNat 7))] h22) (
A.cmp .lss n10 (.ofNat 0) (fun t26 =>
A.cond t26 (
K [(.i (.ofNat 0)), (.i (.ofNat 7))] h22) (
A.cmp .geq n10 n6 (fun t27 =>
A.cond t27 (
K [(.i (.ofNat 0)), (.i (.ofNat 7))] h22) (
A.cmp .lss n12 (.ofNat 0) (fun t28 =>
A.cond t28 (
K [(.i (.ofNat 0)), (.i (.ofNat 7))] h22) (
A.cmp .geq n12 n8 (fun t29 =>
A.cond t29 (
K [(.i (.ofNat 0)), (.i (.ofNat 7))] h22) (
A.ari .mul .i64 n12 n6 (fun n30 =>
A.ari .add .i64 n30 n10 (fun n31 =>
A.ari .mul .i64 (.ofNat 4) n31 (fun n32 =>
A.conv .i64 n14 (fun n33 =>
A.ari .add .i64 n32 n33 (fun n34 =>
K [(.i n34), (.i (.ofNat 0))] h22)))))))))))))))))))))))))))))

/-- crimp/sheets.Cells -/
noncomputable def f37 (ls : List Lf) (h : HT) (K : List Lf → HT → R) : R :=
A.unI ls (fun n6 l7 =>
A.unI l7 (fun n8 l9 =>
A.un0 l9 (
A.call 33 [(.i n6), (.i n8)] h (fun l10 h11 =>
A.unI l10 (fun n12 l13 =>
A.un0 l13 (
A.cmp .neq n12 (.ofNat 0) (fun t14 =>
A.cond t14 (
K [(.v (.slice none 0 0)), (.i n12)] h11) (
A.call 34 [(.i n6), (.i n8)] h11 (fun l15 h16 =>
A.unI l15 (fun n17 l18 =>
A.un0 l18 (
A.opt (mkOk (.ofNat 0) n17) (fun x19 =>
A.new (.cells (zerosA [(.int .i64 (.ofNat 0)), (.int .i64 (.ofNat 0)), (.int .u8 (.ofNat 0))] (Int.toNat n17)) 3 true) h16 (fun m20 h21 =>
A.call 34 [(.i n6), (.i n8)] h21 (fun l22 h23 =>
A.unI l22 (fun n24 l25 =>
A.un0 l25 (
A.loop (fun s26 l27 h28 =>
A.unV l27 (fun x29 l30 =>
A.unI l30 (fun n31 l32 =>
A.un0 l32 (
A.cmp .lss n31 n24 (fun t33 =>
A.cond t33 (
A.call 73 [(.i n6), (.i n8), (.i n31)] h28 (fun l34 h35 =>
A.unI l34 (fun n36 l37 =>
A.unI l37 (fun n38 l39 =>
A.unI l39 (fun n40 l41 =>
A.un0 l41 (
A.new (.cells [(.int .i64 n36), (.int .i64 n38), (.int .u8 n40)] 3 true) h35 (fun m42 h43 =>
A.heap (apG cc 3 24 x29 (.slice (some ⟨m42, 0, (some 13)⟩) 1 2)) h43 (fun l44 h45 =>
A.ucV l44 (fun x46 l47 =>
A.chk x46 (
A.uc0 l47 (
A.ari .add .i64 n31 (.ofNat 1) (fun n48 =>
s26 [(.v x46), (.i n48)] h45)))))))))))) (
K [(.v x29), (.i (.ofNat 0))] h28)))))) [(.v (.slice (some ⟨m20, 0, (some 13)⟩) (Int.toNat (.ofNat 0)) ((Int.toNat n17) + 1))), (.i (.ofNat 0))] h23))))))))))))))))

/-- crimp/crimpref05.Id -/
noncomputable def f38 (ls : List Lf) (h : HT) (K : List Lf → HT → R) : R :=
A.unI ls (fun n6 l7 =>
A.unI l7 (fun n8 l9 =>
A.unI l9 (fun n10 l11 =>
A.unI l11 (fun n12 l13 =>
A.unI l13 (fun n14 l15 =>
A.un0 l15 (
A.cmp .lss n10 (.ofNat 0) (fun t16 =>
A.cond t16 (
K [(.i (.negSucc 0))] h) (
A.cmp .lss n12 (.ofNat 0) (fun t17 =>
A.cond t17 (
K [(.i (.negSucc 0))] h) (
A.cmp .geq n10 n6 (fun t18 =>
A.cond t18 (
K [(.i (.negSucc 0))] h) (
A.cmp .geq n12 n8 (fun t19 =>
A.cond t19 (
K [(.i (.negSucc 0))] h) (
A.cmp .gtr n14 (.ofNat 3) (fun t20 =>
A.cond t20 (
K [(.i (.negSucc 0))] h) (
A.ari .mul .i64 (.ofNat 4) n6 (fun n21 =>
A.ari .mul .i64 n21 n12 (fun n22 =>
A.ari .mul .i64 (.ofNat 4) n10 (fun n23 =>
A.ari .add .i64 n22 n23 (fun n24 =>
A.conv .i64 n14 (fun n25 =>
A.ari .add .i64 n24 n25 (fun n26 =>
K [(.i n26)] h))))))))))))))))))))))

/-- crimp/crimplaw05.sheet -/
noncomputable def f39 (ls : List Lf) (h : HT) (K : List Lf → HT → R) : R :=
A.unI ls (fun n6 l7 =>
A.unI l7 (fun n8 l9 =>
A.un0 l9 (
K [(.i n6), (.i n8)] h)))

/-- crimp/cells.Line -/
noncomputable def f40 (ls : List Lf) (h : HT) (K : List Lf → HT → R) : R :=
A.unI ls (fun n6 l7 =>
A.unI l7 (fun n8 l9 =>
A.unI l9 (fun n10 l11 =>
A.unI l11 (fun n12 l13 =>
A.un0 l13 (
A.call 43 [(.i n6), (.i n8), (.i n10)] h (fun l14 h15 =>
A.unI l14 (fun n16 l17 =>
A.un0 l17 (
A.cmp .neq n16 (.ofNat 0) (fun t18 =>
A.cond t18 (
K [(.i (.ofNat 0)), (.i (.ofNat 0)), (.i (.ofNat 1))] h15) (
A.cmp .gtr n12 (.ofNat 2) (fun t19 =>
A.cond t19 (
K [(.i (.ofNat 0)), (.i (.ofNat 0)), (.i (.ofNat 1))] h15) (
A.opt (inB 4 n10) (fun x20 =>
A.opt (pickV gl0 0 [(n10, 17)] 17) (fun x21 =>
A.ucI .i64 x21 (fun n22 l23 =>
A.ucI .i64 l23 (fun n24 l25 =>
A.ucI .u8 l25 (fun n26 l27 =>
A.ucI .i64 l27 (fun n28 l29 =>
A.ucI .i64 l29 (fun n30 l31 =>
A.ucI .i64 l31 (fun n32 l33 =>
A.ucI .u8 l33 (fun n34 l35 =>
A.ucI .i64 l35 (fun n36 l37 =>
A.ucI .i64 l37 (fun n38 l39 =>
A.ucI .u8 l39 (fun n40 l41 =>
A.ucI .i64 l41 (fun n42 l43 =>
A.ucI .i64 l43 (fun n44 l45 =>
A.ucI .u8 l45 (fun n46 l47 =>
A.ucI .i64 l47 (fun n48 l49 =>
A.ucI .i64 l49 (fun n50 l51 =>
A.ucI .i64 l51 (fun n52 l53 =>
A.ucI .i64 l53 (fun n54 l55 =>
A.uc0 l55 (
A.ari .add .i64 n6 n28 (fun n56 =>
A.cmp .eql n12 (.ofNat 1) (fun t57 =>
A.join (fun l58 h59 =>
A.unI l58 (fun n60 l61 =>
A.unI l61 (fun n62 l63 =>
A.un0 l63 (
A.call 74 [(.i n60), (.i n62)] h59 (fun l64 h65 =>
A.unI l64 (fun n66 l67 =>
A.un0 l67 (
A.cmp .neq n66 (.ofNat 0) (fun t68 =>
A.cond t68 (
K [(.i (.ofNat 0)), (.i (.ofNat 0)), (.i (.ofNat 3))] h65) (
K [(.i n60), (.i n62), (.i (.ofNat 0))] h65))))))))) (fun j69 =>
A.cond t57 (
A.ari .add .i64 n6 n8 (fun n70 =>
A.ari .add .i64 n70 (.ofNat 1) (fun n71 =>
j69 [(.i (.ofNat 3)), (.i n71)] h15))) (
A.cmp .eql n12 (.ofNat 2) (fun t72 =>
A.join (fun l73 h74 =>
A.unI l73 (fun n75 l76 =>
A.unI l76 (fun n77 l78 =>
A.un0 l78 (
j69 [(.i n75), (.i n77)] h74)))) (fun j79 =>
A.cond t72 (
A.ari .sub .i64 n8 n6 (fun n80 =>
j79 [(.i (.ofNat 4)), (.i n80)] h15)) (
A.cmp .eql n26 (.ofNat 2) (fun t81 =>
A.join (fun l82 h83 =>
A.unI l82 (fun n84 l85 =>
A.unI l85 (fun n86 l87 =>
A.un0 l87 (
j79 [(.i n84), (.i n86)] h83)))) (fun j88 =>
A.cond t81 (
A.ari .add .i64 n8 n28 (fun n89 =>
j88 [(.i n26), (.i n89)] h15)) (
j88 [(.i n26), (.i n56)] h15))))))))))))))))))))))))))))))))))))))))))

/-- crimp/cells.Corners -/
noncomputable def f41 (ls : List Lf) (h : HT) (K : List Lf → HT → R) : R :=
A.unI ls (fun n6 l7 =>
A.unI l7 (fun n8 l9 =>
A.unI l9 (fun n10 l11 =>
A.un0 l11 (
A.call 43 [(.i n6), (.i n8), (.i n10)] h (fun l12 h13 =>
A.unI l12 (fun n14 l15 =>
A.un0 l15 (
A.cmp .neq n14 (.ofNat 0) (fun t16 =>
A.cond t16 (
K [(.i (.ofNat 0)), (.i (.ofNat 0)), (.i (.ofNat 0)), (.i (.ofNat 0)), (.i (.ofNat 0)), (.i (.ofNat 0)), (.i (.ofNat 1))] h13) (
A.opt (inB 4 n10) (fun x17 =>
A.opt (pickV gl0 0 [(n10, 17)] 17) (fun x18 =>
A.ucI .i64 x18 (fun n19 l20 =>
A.ucI .i64 l20 (fun n21 l22 =>
A.ucI .u8 l22 (fun n23 l24 =>
A.ucI .i64 l24 (fun n25 l26 =>
A.ucI .i64 l26 (fun n27 l28 =>
A.ucI .i64 l28 (fun n29 l30 =>
A.ucI .u8 l30 (fun n31 l32 =>
A.ucI .i64 l32 (fun n33 l34 =>
A.ucI .i64 l34 (fun n35 l36 =>
A.ucI .u8 l36 (fun n37 l38 =>
A.ucI .i64 l38 (fun n39 l40 =>
A.ucI .i64 l40 (fun n41 l42 =>
A.ucI .u8 l42 (fun n43 l44 =>
A.ucI .i64 l44 (fun n45 l46 =>
A.ucI .i64 l46 (fun n47 l48 =>
A.ucI .i64 l48 (fun n49 l50 =>
A.ucI .i64 l50 (fun n51 l52 =>
A.uc0 l52 (
A.loop (fun s53 l54 h55 =>
A.unI l54 (fun n56 l57 =>
A.unI l57 (fun n58 l59 =>
A.unI l59 (fun n60 l61 =>
A.unI l61 (fun n62 l63 =>
A.unI l63 (fun n64 l65 =>
A.unI l65 (fun n66 l67 =>
A.unI l67 (fun n68 l69 =>
A.un0 l69 (
A.cmp .lss n56 (.ofNat 3) (fun t70 =>
A.cond t70 (
A.opt (inB 3 n56) (fun x71 =>
A.opt (pickL [(.i n58), (.i n60), (.i n62), (.i n64), (.i n66), (.i n68)] 0 [(n56, 2)] 1) (fun x72 =>
A.unI x72 (fun n73 l74 =>
A.un0 l74 (
A.ari .mul .i64 (.ofNat 2) n6 (fun n75 =>
A.ari .add .i64 n73 n75 (fun n76 =>
A.opt (inB 3 n56) (fun x77 =>
A.opt (putL [(.i n58), (.i n60), (.i n62), (.i n64), (.i n66), (.i n68)] 0 [(n56, 2)] [(.i n76)]) (fun x78 =>
A.unI x78 (fun n79 l80 =>
A.unI l80 (fun n81 l82 =>
A.unI l82 (fun n83 l84 =>
A.unI l84 (fun n85 l86 =>
A.unI l86 (fun n87 l88 =>
A.unI l88 (fun n89 l90 =>
A.un0 l90 (
A.opt (inB 3 n56) (fun x91 =>
A.opt (pickL [(.i n79), (.i n81), (.i n83), (.i n85), (.i n87), (.i n89)] 1 [(n56, 2)] 1) (fun x92 =>
A.unI x92 (fun n93 l94 =>
A.un0 l94 (
A.ari .mul .i64 (.ofNat 2) n8 (fun n95 =>
A.ari .add .i64 n93 n95 (fun n96 =>
A.opt (inB 3 n56) (fun x97 =>
A.opt (putL [(.i n79), (.i n81), (.i n83), (.i n85), (.i n87), (.i n89)] 1 [(n56, 2)] [(.i n96)]) (fun x98 =>
A.unI x98 (fun n99 l100 =>
A.unI l100 (fun n101 l102 =>
A.unI l102 (fun n103 l104 =>
A.unI l104 (fun n105 l106 =>
A.unI l106 (fun n107 l108 =>
A.unI l108 (fun n109 l110 =>
A.un0 l110 (
A.ari .add .i64 n56 (.ofNat 1) (fun n111 =>
s53 [(.i n111), (.i n99), (.i n101), (.i n103), (.i n105), (.i n107), (.i n109)] h55)))))))))))))))))))))))))))))))) (
K [(.i n58), (.i n60), (.i n62), (.i n64), (.i n66), (.i n68), (.i (.ofNat 0))] h55))))))))))) [(.i (.ofNat 0)), (.i (.ofNat 1)), (.i (.ofNat 1)), (.i n45), (.i n47), (.i n49), (.i n51)] h13)))))))))))))))))))))))))))))

/-- crimp/crimpref03.Valid -/
noncomputable def f42 (ls : List Lf) (h : HT) (K : List Lf → HT → R) : R :=
A.unI ls (fun n6 l7 =>
A.unI l7 (fun n8 l9 =>
A.unI l9 (fun n10 l11 =>
A.un0 l11 (
A.cmp .lss n6 (.negSucc 4095) (fun t12 =>
A.cond t12 (
K [(.i (.ofNat 0))] h) (
A.cmp .gtr n6 (.ofNat 4096) (fun t13 =>
A.cond t13 (
K [(.i (.ofNat 0))] h) (
A.cmp .lss n8 (.negSucc 4095) (fun t14 =>
A.cond t14 (
K [(.i (.ofNat 0))] h) (
A.cmp .gtr n8 (.ofNat 4096) (fun t15 =>
A.cond t15 (
K [(.i (.ofNat 0))] h) (
A.cmp .gtr n10 (.ofNat 3) (fun t16 =>
A.cond t16 (
K [(.i (.ofNat 0))] h) (
K [(.i (.ofNat 1))] h))))))))))))))

/-- crimp/cells.Check -/
noncomputable def f43 (ls : List Lf) (h : HT) (K : List Lf → HT → R) : R :=
A.unI ls (fun n6 l7 =>
A.unI l7 (fun n8 l9 =>
A.unI l9 (fun n10 l11 =>
A.un0 l11 (
A.cmp .lss n6 (.negSucc 4095) (fun t12 =>
A.cond t12 (
K [(.i (.ofNat 1))] h) (
A.cmp .gtr n6 (.ofNat 4096) (fun t13 =>
A.cond t13 (
K [(.i (.ofNat 1))] h) (
A.cmp .lss n8 (.negSucc 4095) (fun t14 =>
A.cond t14 (
K [(.i (.ofNat 1))] h) (
A.cmp .gtr n8 (.ofNat 4096) (fun t15 =>
A.cond t15 (
K [(.i (.ofNat 1))] h) (
A.cmp .gtr n10 (.ofNat 3) (fun t16 =>
A.cond t16 (
K [(.i (.ofNat 1))] h) (
K [(.i (.ofNat 0))] h))))))))))))))

/-- crimp/crimplaw03.lives -/
noncomputable def f44 (ls : List Lf) (h : HT) (K : List Lf → HT → R) : R :=
A.un0 ls (
A.loop (fun s6 l7 h8 =>
A.unI l7 (fun n9 l10 =>
A.un0 l10 (
A.cmp .lss n9 (.ofNat 3) (fun t11 =>
A.cond t11 (
A.call 66 [(.i (.ofNat 2)), (.i (.ofNat 5)), (.i (.ofNat 0))] h8 (fun l12 h13 =>
A.unI l12 (fun n14 l15 =>
A.unI l15 (fun n16 l17 =>
A.unI l17 (fun n18 l19 =>
A.un0 l19 (
A.call 40 [(.i n14), (.i n16), (.i n18), (.i n9)] h13 (fun l20 h21 =>
A.unI l20 (fun n22 l23 =>
A.unI l23 (fun n24 l25 =>
A.unI l25 (fun n26 l27 =>
A.un0 l27 (
A.call 66 [(.i (.ofNat 0)), (.i (.ofNat 0)), (.i (.ofNat 0))] h21 (fun l28 h29 =>
A.unI l28 (fun n30 l31 =>
A.unI l31 (fun n32 l33 =>
A.unI l33 (fun n34 l35 =>
A.un0 l35 (
A.call 47 [(.i n30), (.i n32), (.i n34), (.i n9)] h29 (fun l36 h37 =>
A.unI l36 (fun n38 l39 =>
A.unI l39 (fun n40 l41 =>
A.unI l41 (fun n42 l43 =>
A.unI l43 (fun n44 l45 =>
A.un0 l45 (
A.call 75 [(.i (.ofNat 2)), (.i (.ofNat 5))] h37 (fun l46 h47 =>
A.unI l46 (fun n48 l49 =>
A.unI l49 (fun n50 l51 =>
A.un0 l51 (
A.call 75 [(.i (.ofNat 3)), (.i (.ofNat 8))] h47 (fun l52 h53 =>
A.unI l52 (fun n54 l55 =>
A.unI l55 (fun n56 l57 =>
A.un0 l57 (
A.call 75 [(.i (.ofNat 4)), (.i (.ofNat 3))] h53 (fun l58 h59 =>
A.unI l58 (fun n60 l61 =>
A.unI l61 (fun n62 l63 =>
A.un0 l63 (
A.new (.cells [(.int .u8 n48), (.int .i64 n50), (.int .u8 n54), (.int .i64 n56), (.int .u8 n60), (.int .i64 n62)] 2 true) h59 (fun m64 h65 =>
A.opt (idS 2 (.slice (some ⟨m64, 0, (some 12)⟩) 3 4) n9) (fun x66 =>
A.peek (ldP 2 x66) h65 (fun l67 =>
A.ucI .u8 l67 (fun n68 l69 =>
A.ucI .i64 l69 (fun n70 l71 =>
A.uc0 l71 (
A.eqs [((.i n22), (.i n68)), ((.i n24), (.i n70))] (fun t72 =>
A.cond (!t72) (
K [(.b false)] h65) (
A.cmp .neq n26 (.ofNat 0) (fun t73 =>
A.cond t73 (
K [(.b false)] h65) (
A.call 66 [(.i (.ofNat 0)), (.i (.negSucc 0)), (.i (.ofNat 2))] h65 (fun l74 h75 =>
A.unI l74 (fun n76 l77 =>
A.unI l77 (fun n78 l79 =>
A.unI l79 (fun n80 l81 =>
A.un0 l81 (
A.call 66 [(.i (.ofNat 0)), (.i (.ofNat 0)), (.i (.ofNat 1))] h75 (fun l82 h83 =>
A.unI l82 (fun n84 l85 =>
A.unI l85 (fun n86 l87 =>
A.unI l87 (fun n88 l89 =>
A.un0 l89 (
A.call 66 [(.i (.ofNat 0)), (.i (.ofNat 0)), (.i (.ofNat 3))] h83 (fun l90 h91 =>
A.unI l90 (fun n92 l93 =>
A.unI l93 (fun n94 l95 =>
A.unI l95 (fun n96 l97 =>
A.un0 l97 (
A.new (.cells [(.int .i64 n76), (.int .i64 n78), (.int .u8 n80), (.int .i64 n84), (.int .i64 n86), (.int .u8 n88), (.int .i64 n92), (.int .i64 n94), (.int .u8 n96)] 3 true) h91 (fun m98 h99 =>
A.opt (idS 3 (.slice (some ⟨m98, 0, (some 13)⟩) 3 4) n9) (fun x100 =>
A.peek (ldP 3 x100) h99 (fun l101 =>
A.ucI .i64 l101 (fun n102 l103 =>
A.ucI .i64 l103 (fun n104 l105 =>
A.ucI .u8 l105 (fun n106 l107 =>
A.uc0 l107 (
A.eqs [((.i n38), (.i n102)), ((.i n40), (.i n104)), ((.i n42), (.i n106))] (fun t108 =>
A.cond (!t108) (
K [(.b false)] h99) (
A.cmp .neq n44 (.ofNat 0) (fun t109 =>
A.cond t109 (
K [(.b false)] h99) (
A.ari .add .u8 n9 (.ofNat 1) (fun n110 =>
s6 [(.i n110)] h99))))))))))))))))))))))))))))))))))))))))))))))))))))))))))))))))))))))) (
A.loop (fun s111 l112 h113 =>
A.unI l112 (fun n114 l115 =>
A.un0 l115 (
A.cmp .lss n114 (.ofNat 4) (fun t116 =>
A.cond t116 (
A.call 66 [(.i (.ofNat 2)), (.i (.ofNat 5)), (.i n114)] h113 (fun l117 h118 =>
A.unI l117 (fun n119 l120 =>
A.unI l120 (fun n121 l122 =>
A.unI l122 (fun n123 l124 =>
A.un0 l124 (
A.call 40 [(.i n119), (.i n121), (.i n123), (.i (.ofNat 0))] h118 (fun l125 h126 =>
A.unI l125 (fun n127 l128 =>
A.unI l128 (fun n129 l130 =>
A.unI l130 (fun n131 l132 =>
A.un0 l132 (
A.call 75 [(.i (.ofNat 1)), (.i (.ofNat 3))] h126 (fun l133 h134 =>
A.unI l133 (fun n135 l136 =>
A.unI l136 (fun n137 l138 =>
A.un0 l138 (
A.call 75 [(.i (.ofNat 2)), (.i (.ofNat 6))] h134 (fun l139 h140 =>
A.unI l139 (fun n141 l142 =>
A.unI l142 (fun n143 l144 =>
A.un0 l144 (
A.call 75 [(.i (.ofNat 1)), (.i (.ofNat 2))] h140 (fun l145 h146 =>
A.unI l145 (fun n147 l148 =>
A.unI l148 (fun n149 l150 =>
A.un0 l150 (
A.new (.cells [(.int .u8 (.ofNat 0)), (.int .i64 (.ofNat 0)), (.int .u8 n135), (.int .i64 n137), (.int .u8 n141), (.int .i64 n143), (.int .u8 n147), (.int .i64 n149)] 2 true) h146 (fun m151 h152 =>
A.opt (idS 2 (.slice (some ⟨m151, 0, (some 12)⟩) 4 5) n114) (fun x153 =>
A.peek (ldP 2 x153) h152 (fun l154 =>
A.ucI .u8 l154 (fun n155 l156 =>
A.ucI .i64 l156 (fun n157 l158 =>
A.uc0 l158 (
A.eqs [((.i n127), (.i n155)), ((.i n129), (.i n157))] (fun t159 =>
A.cond (!t159) (
K [(.b false)] h152) (
A.cmp .neq n131 (.ofNat 0) (fun t160 =>
A.cond t160 (
K [(.b false)] h152) (
A.ari .add .u8 n114 (.ofNat 1) (fun n161 =>
s111 [(.i n161)] h152)))))))))))))))))))))))))))))))))) (
A.call 66 [(.i (.ofNat 0)), (.i (.ofNat 0)), (.i (.ofNat 0))] h113 (fun l162 h163 =>
A.unI l162 (fun n164 l165 =>
A.unI l165 (fun n166 l167 =>
A.unI l167 (fun n168 l169 =>
A.un0 l169 (
A.call 66 [(.i (.ofNat 0)), (.i (.ofNat 0)), (.i (.ofNat 1))] h163 (fun l170 h171 =>
A.unI l170 (fun n172 l173 =>
A.unI l173 (fun n174 l175 =>
A.unI l175 (fun n176 l177 =>
A.un0 l177 (
A.call 48 [(.i n164), (.i n166), (.i n168), (.i n172), (.i n174), (.i n176)] h171 (fun l178 h179 =>
A.unI l178 (fun n180 l181 =>
A.unI l181 (fun n182 l183 =>
A.un0 l183 (
A.call 66 [(.i (.ofNat 0)), (.i (.ofNat 0)), (.i (.ofNat 0))] h179 (fun l184 h185 =>
A.unI l184 (fun n186 l187 =>
A.unI l187 (fun n188 l189 =>
A.unI l189 (fun n190 l191 =>
A.un0 l191 (
A.call 66 [(.i (.ofNat 0)), (.i (.ofNat 0)), (.i (.ofNat 2))] h185 (fun l192 h193 =>
A.unI l192 (fun n194 l195 =>
A.unI l195 (fun n196 l197 =>
A.unI l197 (fun n198 l199 =>
A.un0 l199 (
A.call 48 [(.i n186), (.i n188), (.i n190), (.i n194), (.i n196), (.i n198)] h193 (fun l200 h201 =>
A.unI l200 (fun n202 l203 =>
A.unI l203 (fun n204 l205 =>
A.un0 l205 (
A.call 66 [(.i (.ofNat 0)), (.i (.ofNat 0)), (.i (.ofNat 0))] h201 (fun l206 h207 =>
A.unI l206 (fun n208 l209 =>
A.unI l209 (fun n210 l211 =>
A.unI l211 (fun n212 l213 =>
A.un0 l213 (
A.call 41 [(.i n208), (.i n210), (.i n212)] h207 (fun l214 h215 =>
A.unI l214 (fun n216 l217 =>
A.unI l217 (fun n218 l219 =>
A.unI l219 (fun n220 l221 =>
A.unI l221 (fun n222 l223 =>
A.unI l223 (fun n224 l225 =>
A.unI l225 (fun n226 l227 =>
A.unI l227 (fun n228 l229 =>
A.un0 l229 (
A.call 66 [(.i (.ofNat 0)), (.i (.ofNat 0)), (.i (.ofNat 2))] h215 (fun l230 h231 =>
A.unI l230 (fun n232 l233 =>
A.unI l233 (fun n234 l235 =>
A.unI l235 (fun n236 l237 =>
A.un0 l237 (
A.call 41 [(.i n232), (.i n234), (.i n236)] h231 (fun l238 h239 =>
A.unI l238 (fun n240 l241 =>
A.unI l241 (fun n242 l243 =>
A.unI l243 (fun n244 l245 =>
A.unI l245 (fun n246 l247 =>
A.unI l247 (fun n248 l249 =>
A.unI l249 (fun n250 l251 =>
A.unI l251 (fun n252 l253 =>
A.un0 l253 (
A.cmp .neq n180 (.ofNat 1) (fun t254 =>
A.cond t254 (
K [(.b false)] h239) (
A.cmp .neq n182 (.ofNat 0) (fun t255 =>
A.cond t255 (
K [(.b false)] h239) (
A.cmp .neq n204 (.ofNat 7) (fun t256 =>
A.cond t256 (
K [(.b false)] h239) (
A.eqs [((.i n216), (.i (.ofNat 1))), ((.i n218), (.i (.ofNat 1))), ((.i n220), (.i (.ofNat 0))), ((.i n222), (.i (.ofNat 0))), ((.i n224), (.i (.ofNat 2))), ((.i n226), (.i (.ofNat 0)))] (fun t257 =>
A.cond (!t257) (
K [(.b false)] h239) (
A.eqs [((.i n240), (.i (.ofNat 1))), ((.i n242), (.i (.ofNat 1))), ((.i n244), (.i (.ofNat 2))), ((.i n246), (.i (.ofNat 2))), ((.i n248), (.i (.ofNat 0))), ((.i n250), (.i (.ofNat 2)))] (fun t258 =>
A.cond (!t258) (
K [(.b false)] h239) (
A.loop (fun s259 l260 h261 =>
A.unI l260 (fun n262 l263 =>
A.un0 l263 (
A.cmp .lss n262 (.ofNat 4) (fun t264 =>
A.cond t264 (
A.call 75 [(.i (.ofNat 3)), (.i (.ofNat 1))] h261 (fun l265 h266 =>
A.unI l265 (fun n267 l268 =>
A.unI l268 (fun n269 l270 =>
A.un0 l270 (
A.call 66 [(.i (.ofNat 0)), (.i (.ofNat 0)), (.i n262)] h266 (fun l271 h272 =>
A.unI l271 (fun n273 l274 =>
A.unI l274 (fun n275 l276 =>
A.unI l276 (fun n277 l278 =>
A.un0 l278 (
A.call 50 [(.i n267), (.i n269), (.i n273), (.i n275), (.i n277)] h272 (fun l279 h280 =>
A.unI l279 (fun n281 l282 =>
A.unI l282 (fun n283 l284 =>
A.un0 l284 (
A.new (.cells [(.int .i64 (.ofNat 0)), (.int .i64 (.ofNat 1)), (.int .i64 (.ofNat 1)), (.int .i64 (.ofNat 0))] 1 true) h280 (fun m285 h286 =>
A.opt (idS 1 (.slice (some ⟨m285, 0, (some 11)⟩) 4 5) n262) (fun x287 =>
A.peek (ldP 1 x287) h286 (fun l288 =>
A.ucI .i64 l288 (fun n289 l290 =>
A.uc0 l290 (
A.cmp .neq n281 n289 (fun t291 =>
A.cond t291 (
K [(.b false)] h286) (
A.cmp .neq n283 (.ofNat 0) (fun t292 =>
A.cond t292 (
K [(.b false)] h286) (
A.ari .add .u8 n262 (.ofNat 1) (fun n293 =>
s259 [(.i n293)] h286)))))))))))))))))))))))) (
A.call 75 [(.i (.ofNat 1)), (.i (.ofNat 1))] h261 (fun l294 h295 =>
A.unI l294 (fun n296 l297 =>
A.unI l297 (fun n298 l299 =>
A.un0 l299 (
A.call 66 [(.i (.ofNat 0)), (.i (.ofNat 0)), (.i (.ofNat 1))] h295 (fun l300 h301 =>
A.unI l300 (fun n302 l303 =>
A.unI l303 (fun n304 l305 =>
A.unI l305 (fun n306 l307 =>
A.un0 l307 (
A.call 50 [(.i n296), (.i n298), (.i n302), (.i n304), (.i n306)] h301 (fun l308 h309 =>
A.unI l308 (fun n310 l311 =>
A.unI l311 (fun n312 l313 =>
A.un0 l313 (
A.call 75 [(.i (.ofNat 1)), (.i (.ofNat 1))] h309 (fun l314 h315 =>
A.unI l314 (fun n316 l317 =>
A.unI l317 (fun n318 l319 =>
A.un0 l319 (
A.call 66 [(.i (.ofNat 1)), (.i (.ofNat 0)), (.i (.ofNat 3))] h315 (fun l320 h321 =>
A.unI l320 (fun n322 l323 =>
A.unI l323 (fun n324 l325 =>
A.unI l325 (fun n326 l327 =>
A.un0 l327 (
A.call 50 [(.i n316), (.i n318), (.i n322), (.i n324), (.i n326)] h321 (fun l328 h329 =>
A.unI l328 (fun n330 l331 =>
A.unI l331 (fun n332 l333 =>
A.un0 l333 (
A.call 66 [(.i (.ofNat 0)), (.i (.ofNat 0)), (.i (.ofNat 0))] h329 (fun l334 h335 =>
A.unI l334 (fun n336 l337 =>
A.unI l337 (fun n338 l339 =>
A.unI l339 (fun n340 l341 =>
A.un0 l341 (
A.call 52 [(.i (.ofNat 1)), (.i (.ofNat 2)), (.i (.ofNat 4)), (.i n336), (.i n338), (.i n340)] h335 (fun l342 h343 =>
A.unI l342 (fun n344 l345 =>
A.unI l345 (fun n346 l347 =>
A.unI l347 (fun n348 l349 =>
A.unI l349 (fun n350 l351 =>
A.un0 l351 (
A.cmp .neq n310 (.ofNat 0) (fun t352 =>
A.cond t352 (
K [(.b false)] h343) (
A.cmp .neq n330 (.ofNat 1) (fun t353 =>
A.cond t353 (
K [(.b false)] h343) (
A.call 66 [(.i (.ofNat 1)), (.i (.ofNat 4)), (.i (.ofNat 1))] h343 (fun l354 h355 =>
A.unI l354 (fun n356 l357 =>
A.unI l357 (fun n358 l359 =>
A.unI l359 (fun n360 l361 =>
A.un0 l361 (
A.eqs [((.i n344), (.i n356)), ((.i n346), (.i n358)), ((.i n348), (.i n360))] (fun t362 =>
A.cond (!t362) (
K [(.b false)] h355) (
A.call 66 [(.i (.ofNat 0)), (.i (.ofNat 0)), (.i (.ofNat 3))] h355 (fun l363 h364 =>
A.unI l363 (fun n365 l366 =>
A.unI l366 (fun n367 l368 =>
A.unI l368 (fun n369 l370 =>
A.un0 l370 (
A.call 66 [(.i (.ofNat 0)), (.i (.ofNat 0)), (.i (.ofNat 1))] h364 (fun l371 h372 =>
A.unI l371 (fun n373 l374 =>
A.unI l374 (fun n375 l376 =>
A.unI l376 (fun n377 l378 =>
A.un0 l378 (
A.call 66 [(.i (.ofNat 0)), (.i (.ofNat 0)), (.i (.ofNat 2))] h372 (fun l379 h380 =>
A.unI l379 (fun n381 l382 =>
A.unI l382 (fun n383 l384 =>
A.unI l384 (fun n385 l386 =>
A.un0 l386 (
A.call 66 [(.i (.ofNat 0)), (.i (.negSucc 0)), (.i (.ofNat 2))] h380 (fun l387 h388 =>
A.unI l387 (fun n389 l390 =>
A.unI l390 (fun n391 l392 =>
A.unI l392 (fun n393 l394 =>
A.un0 l394 (
A.call 66 [(.i (.ofNat 1)), (.i (.ofNat 0)), (.i (.ofNat 0))] h388 (fun l395 h396 =>
A.unI l395 (fun n397 l398 =>
A.unI l398 (fun n399 l400 =>
A.unI l400 (fun n401 l402 =>
A.un0 l402 (
A.new (.cells [(.int .i64 n365), (.int .i64 n367), (.int .u8 n369), (.int .i64 n373), (.int .i64 n375), (.int .u8 n377), (.int .i64 n381), (.int .i64 n383), (.int .u8 n385), (.int .i64 n389), (.int .i64 n391), (.int .u8 n393), (.int .i64 n397), (.int .i64 n399), (.int .u8 n401)] 3 true) h396 (fun m403 h404 =>
A.new (.cells [(.int .u8 (.ofNat 7)), (.int .i64 (.ofNat 0)), (.int .i64 (.ofNat 0)), (.int .u8 (.ofNat 5)), (.int .i64 (.ofNat 1)), (.int .i64 (.ofNat 1)), (.int .u8 (.ofNat 2)), (.int .i64 (.ofNat 1)), (.int .i64 (.ofNat 1)), (.int .u8 (.ofNat 6)), (.int .i64 (.ofNat 0)), (.int .i64 (.ofNat 0)), (.int .u8 (.ofNat 4)), (.int .i64 (.ofNat 2)), (.int .i64 (.ofNat 0))] 3 true) h404 (fun m405 h406 =>
A.loop (fun s407 l408 h409 =>
A.unI l408 (fun n410 l411 =>
A.un0 l411 (
A.cmp .lss n410 (.ofNat 5) (fun t412 =>
A.cond t412 (
A.call 66 [(.i (.ofNat 0)), (.i (.ofNat 0)), (.i (.ofNat 0))] h409 (fun l413 h414 =>
A.unI l413 (fun n415 l416 =>
A.unI l416 (fun n417 l418 =>
A.unI l418 (fun n419 l420 =>
A.un0 l420 (
A.opt (idS 3 (.slice (some ⟨m403, 0, (some 13)⟩) 5 6) n410) (fun x421 =>
A.peek (ldP 3 x421) h414 (fun l422 =>
A.ucI .i64 l422 (fun n423 l424 =>
A.ucI .i64 l424 (fun n425 l426 =>
A.ucI .u8 l426 (fun n427 l428 =>
A.uc0 l428 (
A.call 55 [(.i n415), (.i n417), (.i n419), (.i n423), (.i n425), (.i n427)] h414 (fun l429 h430 =>
A.unI l429 (fun n431 l432 =>
A.unI l432 (fun n433 l434 =>
A.unI l434 (fun n435 l436 =>
A.unI l436 (fun n437 l438 =>
A.un0 l438 (
A.opt (idS 3 (.slice (some ⟨m405, 0, (some 13)⟩) 5 6) n410) (fun x439 =>
A.peek (ldP 3 x439) h430 (fun l440 =>
A.ucI .u8 l440 (fun n441 l442 =>
A.ucI .i64 l442 (fun n443 l444 =>
A.ucI .i64 l444 (fun n445 l446 =>
A.uc0 l446 (
A.eqs [((.i n431), (.i n441)), ((.i n433), (.i n443)), ((.i n435), (.i n445))] (fun t447 =>
A.cond (!t447) (
K [(.b false)] h430) (
A.cmp .neq n437 (.ofNat 0) (fun t448 =>
A.cond t448 (
K [(.b false)] h430) (
A.ari .add .i64 n410 (.ofNat 1) (fun n449 =>
s407 [(.i n449)] h430))))))))))))))))))))))))))))) (
A.call 66 [(.i (.ofNat 4096)), (.i (.ofNat 0)), (.i (.ofNat 0))] h409 (fun l450 h451 =>
A.unI l450 (fun n452 l453 =>
A.unI l453 (fun n454 l455 =>
A.unI l455 (fun n456 l457 =>
A.un0 l457 (
A.call 40 [(.i n452), (.i n454), (.i n456), (.i (.ofNat 1))] h451 (fun l458 h459 =>
A.unI l458 (fun n460 l461 =>
A.unI l461 (fun n462 l463 =>
A.unI l463 (fun n464 l465 =>
A.un0 l465 (
A.cmp .eql n464 (.ofNat 3) (fun t466 =>
K [(.b t466)] h459)))))))))))))))) [(.i (.ofNat 0))] h406)))))))))))))))))))))))))))))))))))))))))))))))))))))))))))))))))))))))))))))))) [(.i (.ofNat 0))] h239))))))))))))))))))))))))))))))))))))))))))))))))))))))))))))))))))))))) [(.i (.ofNat 1))] h8))))) [(.i (.ofNat 0))] h)

/-- crimp/crimpref03.Corners -/
noncomputable def f45 (ls : List Lf) (h : HT) (K : List Lf → HT → R) : R :=
A.unI ls (fun n6 l7 =>
A.unI l7 (fun n8 l9 =>
A.unI l9 (fun n10 l11 =>
A.un0 l11 (
A.ari .mul .i64 (.ofNat 2) n6 (fun n12 =>
A.ari .mul .i64 (.ofNat 2) n8 (fun n13 =>
A.ari .add .i64 n12 (.ofNat 2) (fun n14 =>
A.ari .add .i64 n12 (.ofNat 2) (fun n15 =>
A.ari .add .i64 n13 (.ofNat 2) (fun n16 =>
A.ari .add .i64 n13 (.ofNat 2) (fun n17 =>
A.conv .i64 n10 (fun n18 =>
A.conv .i64 n10 (fun n19 =>
A.ari .add .i64 n19 (.ofNat 1) (fun n20 =>
A.ari .rem .i64 n20 (.ofNat 4) (fun n21 =>
A.ari .rem .i64 n18 (.ofNat 2) (fun n22 =>
A.cmp .eql n22 (.ofNat 1) (fun t23 =>
A.join (fun l24 h25 =>
A.unI l24 (fun n26 l27 =>
A.unI l27 (fun n28 l29 =>
A.un0 l29 (
A.ari .add .i64 n12 (.ofNat 1) (fun n30 =>
A.ari .add .i64 n13 (.ofNat 1) (fun n31 =>
A.opt (inB 4 n26) (fun x32 =>
A.opt (pickL [(.i n12), (.i n13), (.i n14), (.i n13), (.i n15), (.i n16), (.i n12), (.i n17)] 0 [(n26, 2)] 2) (fun x33 =>
A.unI x33 (fun n34 l35 =>
A.unI l35 (fun n36 l37 =>
A.un0 l37 (
A.opt (inB 4 n28) (fun x38 =>
A.opt (pickL [(.i n12), (.i n13), (.i n14), (.i n13), (.i n15), (.i n16), (.i n12), (.i n17)] 0 [(n28, 2)] 2) (fun x39 =>
A.unI x39 (fun n40 l41 =>
A.unI l41 (fun n42 l43 =>
A.un0 l43 (
K [(.i n30), (.i n31), (.i n34), (.i n36), (.i n40), (.i n42)] h25)))))))))))))))) (fun j44 =>
A.cond t23 (
j44 [(.i n21), (.i n18)] h) (
j44 [(.i n18), (.i n21)] h))))))))))))))))))

/-- crimp/crimpref01.Valid -/
noncomputable def f46 (ls : List Lf) (h : HT) (K : List Lf → HT → R) : R :=
A.unI ls (fun n6 l7 =>
A.unI l7 (fun n8 l9 =>
A.un0 l9 (
A.cmp .geq n6 (.ofNat 1) (fun t10 =>
A.cond t10 (
A.cmp .leq n6 (.ofNat 4) (fun t11 =>
A.cond t11 (
A.cmp .geq n8 (.negSucc 4095) (fun t12 =>
A.cond t12 (
A.cmp .leq n8 (.ofNat 4096) (fun t13 =>
A.cond t13 (
K [(.i (.ofNat 1))] h) (
K [(.i (.ofNat 0))] h))) (
K [(.i (.ofNat 0))] h))) (
K [(.i (.ofNat 0))] h))) (
K [(.i (.ofNat 0))] h)))))

/-- crimp/cells.Neighbour -/
noncomputable def f47 (ls : List Lf) (h : HT) (K : List Lf → HT → R) : R :=
A.unI ls (fun n6 l7 =>
A.unI l7 (fun n8 l9 =>
A.unI l9 (fun n10 l11 =>
A.unI l11 (fun n12 l13 =>
A.un0 l13 (
A.call 43 [(.i n6), (.i n8), (.i n10)] h (fun l14 h15 =>
A.unI l14 (fun n16 l17 =>
A.un0 l17 (
A.cmp .neq n16 (.ofNat 0) (fun t18 =>
A.cond t18 (
K [(.i (.ofNat 0)), (.i (.ofNat 0)), (.i (.ofNat 0)), (.i (.ofNat 1))] h15) (
A.cmp .gtr n12 (.ofNat 2) (fun t19 =>
A.cond t19 (
K [(.i (.ofNat 0)), (.i (.ofNat 0)), (.i (.ofNat 0)), (.i (.ofNat 1))] h15) (
A.opt (inB 4 n10) (fun x20 =>
A.opt (inB 3 n12) (fun x21 =>
A.opt (pickV gl0 4 [(n10, 17), (n12, 3)] 3) (fun x22 =>
A.ucI .i64 x22 (fun n23 l24 =>
A.ucI .i64 l24 (fun n25 l26 =>
A.ucI .u8 l26 (fun n27 l28 =>
A.uc0 l28 (
A.ari .add .i64 n23 n6 (fun n29 =>
A.ari .add .i64 n25 n8 (fun n30 =>
A.call 43 [(.i n29), (.i n30), (.i n27)] h15 (fun l31 h32 =>
A.unI l31 (fun n33 l34 =>
A.un0 l34 (
A.cmp .neq n33 (.ofNat 0) (fun t35 =>
A.cond t35 (
K [(.i (.ofNat 0)), (.i (.ofNat 0)), (.i (.ofNat 0)), (.i (.ofNat 3))] h32) (
K [(.i n29), (.i n30), (.i n27), (.i (.ofNat 0))] h32))))))))))))))))))))))))))

/-- crimp/cells.Touch -/
noncomputable def f48 (ls : List Lf) (h : HT) (K : List Lf → HT → R) : R :=
A.unI ls (fun n6 l7 =>
A.unI l7 (fun n8 l9 =>
A.unI l9 (fun n10 l11 =>
A.unI l11 (fun n12 l13 =>
A.unI l13 (fun n14 l15 =>
A.unI l15 (fun n16 l17 =>
A.un0 l17 (
A.call 43 [(.i n6), (.i n8), (.i n10)] h (fun l18 h19 =>
A.unI l18 (fun n20 l21 =>
A.un0 l21 (
A.cmp .neq n20 (.ofNat 0) (fun t22 =>
A.cond t22 (
K [(.i (.ofNat 0)), (.i (.ofNat 1))] h19) (
A.call 43 [(.i n12), (.i n14), (.i n16)] h19 (fun l23 h24 =>
A.unI l23 (fun n25 l26 =>
A.un0 l26 (
A.cmp .neq n25 (.ofNat 0) (fun t27 =>
A.cond t27 (
K [(.i (.ofNat 0)), (.i (.ofNat 1))] h24) (
A.loop (fun s28 l29 h30 =>
A.unI l29 (fun n31 l32 =>
A.un0 l32 (
A.cmp .lss n31 (.ofNat 3) (fun t33 =>
A.cond t33 (
A.call 47 [(.i n6), (.i n8), (.i n10), (.i n31)] h30 (fun l34 h35 =>
A.unI l34 (fun n36 l37 =>
A.unI l37 (fun n38 l39 =>
A.unI l39 (fun n40 l41 =>
A.unI l41 (fun n42 l43 =>
A.un0 l43 (
A.cmp .eql n42 (.ofNat 0) (fun t44 =>
A.cond t44 (
A.eqs [((.i n36), (.i n12)), ((.i n38), (.i n14)), ((.i n40), (.i n16))] (fun t45 =>
A.cond t45 (
K [(.i n31), (.i (.ofNat 0))] h35) (
A.ari .add .u8 n31 (.ofNat 1) (fun n46 =>
s28 [(.i n46)] h35)))) (
A.ari .add .u8 n31 (.ofNat 1) (fun n47 =>
s28 [(.i n47)] h35)))))))))) (
K [(.i (.ofNat 0)), (.i (.ofNat 7))] h30))))) [(.i (.ofNat 0))] h24)))))))))))))))))

/-- crimp/crimpref03.Neighbour -/
noncomputable def f49 (ls : List Lf) (h : HT) (K : List Lf → HT → R) : R :=
A.unI ls (fun n6 l7 =>
A.unI l7 (fun n8 l9 =>
A.unI l9 (fun n10 l11 =>
A.unI l11 (fun n12 l13 =>
A.un0 l13 (
A.call 31 [(.i n6), (.i n8), (.i n10), (.i n12)] h (fun l14 h15 =>
A.unI l14 (fun n16 l17 =>
A.unI l17 (fun n18 l19 =>
A.un0 l19 (
A.call 45 [(.i n6), (.i n8), (.i n10)] h15 (fun l20 h21 =>
A.unI l20 (fun n22 l23 =>
A.unI l23 (fun n24 l25 =>
A.unI l25 (fun n26 l27 =>
A.unI l27 (fun n28 l29 =>
A.unI l29 (fun n30 l31 =>
A.unI l31 (fun n32 l33 =>
A.un0 l33 (
A.loop (fun s34 l35 h36 =>
A.unI l35 (fun n37 l38 =>
A.unI l38 (fun n39 l40 =>
A.unI l40 (fun n41 l42 =>
A.unI l42 (fun n43 l44 =>
A.unI l44 (fun n45 l46 =>
A.unI l46 (fun n47 l48 =>
A.unI l48 (fun n49 l50 =>
A.un0 l50 (
A.cmp .lss n37 (.ofNat 3) (fun t51 =>
A.cond t51 (
A.opt (inB 3 n37) (fun x52 =>
A.opt (pickL [(.i n39), (.i n41), (.i n43), (.i n45), (.i n47), (.i n49)] 0 [(n37, 2)] 2) (fun x53 =>
A.unI x53 (fun n54 l55 =>
A.unI l55 (fun n56 l57 =>
A.un0 l57 (
A.call 76 [(.i n16), (.i n18), (.i n54), (.i n56)] h36 (fun l58 h59 =>
A.unI l58 (fun n60 l61 =>
A.unI l61 (fun n62 l63 =>
A.un0 l63 (
A.opt (inB 3 n37) (fun x64 =>
A.opt (putL [(.i n39), (.i n41), (.i n43), (.i n45), (.i n47), (.i n49)] 0 [(n37, 2)] [(.i n60), (.i n62)]) (fun x65 =>
A.unI x65 (fun n66 l67 =>
A.unI l67 (fun n68 l69 =>
A.unI l69 (fun n70 l71 =>
A.unI l71 (fun n72 l73 =>
A.unI l73 (fun n74 l75 =>
A.unI l75 (fun n76 l77 =>
A.un0 l77 (
A.ari .add .i64 n37 (.ofNat 1) (fun n78 =>
s34 [(.i n78), (.i n66), (.i n68), (.i n70), (.i n72), (.i n74), (.i n76)] h59)))))))))))))))))))) (
A.call 77 [(.i n39), (.i n41), (.i n43), (.i n45), (.i n47), (.i n49)] h36 (fun l79 h80 =>
A.unI l79 (fun n81 l82 =>
A.unI l82 (fun n83 l84 =>
A.unI l84 (fun n85 l86 =>
A.un0 l86 (
K [(.i n81), (.i n83), (.i n85)] h80)))))))))))))))) [(.i (.ofNat 0)), (.i n22), (.i n24), (.i n26), (.i n28), (.i n30), (.i n32)] h21)))))))))))))))))

/-- crimp/cells.Side -/
noncomputable def f50 (ls : List Lf) (h : HT) (K : List Lf → HT → R) : R :=
A.unI ls (fun n6 l7 =>
A.unI l7 (fun n8 l9 =>
A.unI l9 (fun n10 l11 =>
A.unI l11 (fun n12 l13 =>
A.unI l13 (fun n14 l15 =>
A.un0 l15 (
A.call 41 [(.i n10), (.i n12), (.i n14)] h (fun l16 h17 =>
A.unI l16 (fun n18 l19 =>
A.unI l19 (fun n20 l21 =>
A.unI l21 (fun n22 l23 =>
A.unI l23 (fun n24 l25 =>
A.unI l25 (fun n26 l27 =>
A.unI l27 (fun n28 l29 =>
A.unI l29 (fun n30 l31 =>
A.un0 l31 (
A.cmp .neq n30 (.ofNat 0) (fun t32 =>
A.cond t32 (
K [(.i (.ofNat 0)), (.i (.ofNat 1))] h17) (
A.call 74 [(.i n6), (.i n8)] h17 (fun l33 h34 =>
A.unI l33 (fun n35 l36 =>
A.un0 l36 (
A.cmp .neq n35 (.ofNat 0) (fun t37 =>
A.cond t37 (
K [(.i (.ofNat 0)), (.i (.ofNat 1))] h34) (
A.loop (fun s38 l39 h40 =>
A.unI l39 (fun n41 l42 =>
A.un0 l42 (
A.cmp .lss n41 (.ofNat 3) (fun t43 =>
A.cond t43 (
A.opt (inB 3 n41) (fun x44 =>
A.opt (pickL [(.i n18), (.i n20), (.i n22), (.i n24), (.i n26), (.i n28)] 0 [(n41, 2)] 2) (fun x45 =>
A.unI x45 (fun n46 l47 =>
A.unI l47 (fun n48 l49 =>
A.un0 l49 (
A.call 78 [(.i n6), (.i n8), (.i n46), (.i n48)] h40 (fun l50 h51 =>
A.unI l50 (fun n52 l53 =>
A.un0 l53 (
A.cmp .gtr n52 (.ofNat 0) (fun t54 =>
A.cond t54 (
K [(.i (.ofNat 1)), (.i (.ofNat 0))] h51) (
A.ari .add .i64 n41 (.ofNat 1) (fun n55 =>
s38 [(.i n55)] h51)))))))))))) (
K [(.i (.ofNat 0)), (.i (.ofNat 0))] h40))))) [(.i (.ofNat 0))] h34))))))))))))))))))))))

/-- crimp/crimpref03.Side -/
noncomputable def f51 (ls : List Lf) (h : HT) (K : List Lf → HT → R) : R :=
A.unI ls (fun n6 l7 =>
A.unI l7 (fun n8 l9 =>
A.unI l9 (fun n10 l11 =>
A.unI l11 (fun n12 l13 =>
A.unI l13 (fun n14 l15 =>
A.un0 l15 (
A.call 45 [(.i n10), (.i n12), (.i n14)] h (fun l16 h17 =>
A.unI l16 (fun n18 l19 =>
A.unI l19 (fun n20 l21 =>
A.unI l21 (fun n22 l23 =>
A.unI l23 (fun n24 l25 =>
A.unI l25 (fun n26 l27 =>
A.unI l27 (fun n28 l29 =>
A.un0 l29 (
A.call 28 [(.i n6), (.i n8), (.i n18), (.i n20)] h17 (fun l30 h31 =>
A.unI l30 (fun n32 l33 =>
A.un0 l33 (
A.call 28 [(.i n6), (.i n8), (.i n22), (.i n24)] h31 (fun l34 h35 =>
A.unI l34 (fun n36 l37 =>
A.un0 l37 (
A.ari .add .i64 n32 n36 (fun n38 =>
A.call 28 [(.i n6), (.i n8), (.i n26), (.i n28)] h35 (fun l39 h40 =>
A.unI l39 (fun n41 l42 =>
A.un0 l42 (
A.ari .add .i64 n38 n41 (fun n43 =>
A.cmp .gtr n43 (.ofNat 0) (fun t44 =>
A.cond t44 (
K [(.i (.ofNat 1))] h40) (
K [(.i (.ofNat 0))] h40)))))))))))))))))))))))))))

/-- crimp/cells.Move -/
noncomputable def f52 (ls : List Lf) (h : HT) (K : List Lf → HT → R) : R :=
A.unI ls (fun n6 l7 =>
A.unI l7 (fun n8 l9 =>
A.unI l9 (fun n10 l11 =>
A.unI l11 (fun n12 l13 =>
A.unI l13 (fun n14 l15 =>
A.unI l15 (fun n16 l17 =>
A.un0 l17 (
A.call 79 [(.i n6), (.i n8), (.i n10)] h (fun l18 h19 =>
A.unI l18 (fun n20 l21 =>
A.un0 l21 (
A.cmp .neq n20 (.ofNat 0) (fun t22 =>
A.cond t22 (
K [(.i (.ofNat 0)), (.i (.ofNat 0)), (.i (.ofNat 0)), (.i (.ofNat 1))] h19) (
A.call 43 [(.i n12), (.i n14), (.i n16)] h19 (fun l23 h24 =>
A.unI l23 (fun n25 l26 =>
A.un0 l26 (
A.cmp .neq n25 (.ofNat 0) (fun t27 =>
A.cond t27 (
K [(.i (.ofNat 0)), (.i (.ofNat 0)), (.i (.ofNat 0)), (.i (.ofNat 1))] h24) (
A.call 80 [(.i n6), (.i n8), (.i n10), (.i n12), (.i n14), (.i n16)] h24 (fun l28 h29 =>
A.unI l28 (fun n30 l31 =>
A.unI l31 (fun n32 l33 =>
A.unI l33 (fun n34 l35 =>
A.un0 l35 (
A.call 43 [(.i n30), (.i n32), (.i n34)] h29 (fun l36 h37 =>
A.unI l36 (fun n38 l39 =>
A.un0 l39 (
A.cmp .neq n38 (.ofNat 0) (fun t40 =>
A.cond t40 (
K [(.i (.ofNat 0)), (.i (.ofNat 0)), (.i (.ofNat 0)), (.i (.ofNat 3))] h37) (
K [(.i n30), (.i n32), (.i n34), (.i (.ofNat 0))] h37)))))))))))))))))))))))))))

/-- crimp/crimpref02.Valid -/
noncomputable def f53 (ls : List Lf) (h : HT) (K : List Lf → HT → R) : R :=
A.unI ls (fun n6 l7 =>
A.unI l7 (fun n8 l9 =>
A.unI l9 (fun n10 l11 =>
A.un0 l11 (
A.cmp .gtr n6 (.ofNat 7) (fun t12 =>
A.cond t12 (
K [(.i (.ofNat 0))] h) (
A.cmp .lss n8 (.negSucc 16383) (fun t13 =>
A.cond t13 (
K [(.i (.ofNat 0))] h) (
A.cmp .gtr n8 (.ofNat 16384) (fun t14 =>
A.cond t14 (
K [(.i (.ofNat 0))] h) (
A.cmp .lss n10 (.negSucc 16383) (fun t15 =>
A.cond t15 (
K [(.i (.ofNat 0))] h) (
A.cmp .gtr n10 (.ofNat 16384) (fun t16 =>
A.cond t16 (
K [(.i (.ofNat 0))] h) (
A.ari .sub .i64 n8 n10 (fun n17 =>
A.ari .rem .i64 n17 (.ofNat 2) (fun n18 =>
A.cmp .neq n18 (.ofNat 0) (fun t19 =>
A.cond t19 (
K [(.i (.ofNat 0))] h) (
K [(.i (.ofNat 1))] h))))))))))))))))))

/-- crimp/crimpref03.Move -/
noncomputable def f54 (ls : List Lf) (h : HT) (K : List Lf → HT → R) : R :=
A.unI ls (fun n6 l7 =>
A.unI l7 (fun n8 l9 =>
A.unI l9 (fun n10 l11 =>
A.unI l11 (fun n12 l13 =>
A.unI l13 (fun n14 l15 =>
A.unI l15 (fun n16 l17 =>
A.un0 l17 (
A.call 45 [(.i n12), (.i n14), (.i n16)] h (fun l18 h19 =>
A.unI l18 (fun n20 l21 =>
A.unI l21 (fun n22 l23 =>
A.unI l23 (fun n24 l25 =>
A.unI l25 (fun n26 l27 =>
A.unI l27 (fun n28 l29 =>
A.unI l29 (fun n30 l31 =>
A.un0 l31 (
A.loop (fun s32 l33 h34 =>
A.unI l33 (fun n35 l36 =>
A.unI l36 (fun n37 l38 =>
A.unI l38 (fun n39 l40 =>
A.unI l40 (fun n41 l42 =>
A.unI l42 (fun n43 l44 =>
A.unI l44 (fun n45 l46 =>
A.unI l46 (fun n47 l48 =>
A.un0 l48 (
A.cmp .lss n35 (.ofNat 3) (fun t49 =>
A.cond t49 (
A.opt (inB 3 n35) (fun x50 =>
A.opt (pickL [(.i n37), (.i n39), (.i n41), (.i n43), (.i n45), (.i n47)] 0 [(n35, 2)] 2) (fun x51 =>
A.unI x51 (fun n52 l53 =>
A.unI l53 (fun n54 l55 =>
A.un0 l55 (
A.call 81 [(.i n6), (.i n8), (.i n10), (.i n52), (.i n54)] h34 (fun l56 h57 =>
A.unI l56 (fun n58 l59 =>
A.unI l59 (fun n60 l61 =>
A.un0 l61 (
A.opt (inB 3 n35) (fun x62 =>
A.opt (putL [(.i n37), (.i n39), (.i n41), (.i n43), (.i n45), (.i n47)] 0 [(n35, 2)] [(.i n58), (.i n60)]) (fun x63 =>
A.unI x63 (fun n64 l65 =>
A.unI l65 (fun n66 l67 =>
A.unI l67 (fun n68 l69 =>
A.unI l69 (fun n70 l71 =>
A.unI l71 (fun n72 l73 =>
A.unI l73 (fun n74 l75 =>
A.un0 l75 (
A.ari .add .i64 n35 (.ofNat 1) (fun n76 =>
s32 [(.i n76), (.i n64), (.i n66), (.i n68), (.i n70), (.i n72), (.i n74)] h57)))))))))))))))))))) (
A.call 77 [(.i n37), (.i n39), (.i n41), (.i n43), (.i n45), (.i n47)] h34 (fun l77 h78 =>
A.unI l77 (fun n79 l80 =>
A.unI l80 (fun n81 l82 =>
A.unI l82 (fun n83 l84 =>
A.un0 l84 (
K [(.i n79), (.i n81), (.i n83)] h78)))))))))))))))) [(.i (.ofNat 0)), (.i n20), (.i n22), (.i n24), (.i n26), (.i n28), (.i n30)] h19)))))))))))))))

/-- crimp/cells.Between -/
noncomputable def f55 (ls : List Lf) (h : HT) (K : List Lf → HT → R) : R :=
A.unI ls (fun n6 l7 =>
A.unI l7 (fun n8 l9 =>
A.unI l9 (fun n10 l11 =>
A.unI l11 (fun n12 l13 =>
A.unI l13 (fun n14 l15 =>
A.unI l15 (fun n16 l17 =>
A.un0 l17 (
A.call 43 [(.i n6), (.i n8), (.i n10)] h (fun l18 h19 =>
A.unI l18 (fun n20 l21 =>
A.un0 l21 (
A.cmp .neq n20 (.ofNat 0) (fun t22 =>
A.cond t22 (
K [(.i (.ofNat 0)), (.i (.ofNat 0)), (.i (.ofNat 0)), (.i (.ofNat 1))] h19) (
A.call 43 [(.i n12), (.i n14), (.i n16)] h19 (fun l23 h24 =>
A.unI l23 (fun n25 l26 =>
A.un0 l26 (
A.cmp .neq n25 (.ofNat 0) (fun t27 =>
A.cond t27 (
K [(.i (.ofNat 0)), (.i (.ofNat 0)), (.i (.ofNat 0)), (.i (.ofNat 1))] h24) (
A.call 82 [(.i n12), (.i n14), (.i n16)] h24 (fun l28 h29 =>
A.unI l28 (fun n30 l31 =>
A.unI l31 (fun n32 l33 =>
A.un0 l33 (
A.loop (fun s34 l35 h36 =>
A.unI l35 (fun n37 l38 =>
A.un0 l38 (
A.cmp .lss n37 (.ofNat 8) (fun t39 =>
A.cond t39 (
A.call 82 [(.i n6), (.i n8), (.i n10)] h36 (fun l40 h41 =>
A.unI l40 (fun n42 l43 =>
A.unI l43 (fun n44 l45 =>
A.un0 l45 (
A.call 83 [(.i n37), (.i (.ofNat 0)), (.i (.ofNat 0)), (.i n42), (.i n44)] h41 (fun l46 h47 =>
A.unI l46 (fun n48 l49 =>
A.unI l49 (fun n50 l51 =>
A.unI l51 (fun n52 l53 =>
A.un0 l53 (
A.ari .sub .i64 n30 n48 (fun n54 =>
A.ari .quo .i64 n54 (.ofNat 2) (fun n55 =>
A.ari .sub .i64 n32 n50 (fun n56 =>
A.ari .quo .i64 n56 (.ofNat 2) (fun n57 =>
A.call 79 [(.i n37), (.i n55), (.i n57)] h47 (fun l58 h59 =>
A.unI l58 (fun n60 l61 =>
A.un0 l61 (
A.cmp .eql n60 (.ofNat 0) (fun t62 =>
A.cond t62 (
A.call 80 [(.i n37), (.i n55), (.i n57), (.i n6), (.i n8), (.i n10)] h59 (fun l63 h64 =>
A.unI l63 (fun n65 l66 =>
A.unI l66 (fun n67 l68 =>
A.unI l68 (fun n69 l70 =>
A.un0 l70 (
A.eqs [((.i n65), (.i n12)), ((.i n67), (.i n14)), ((.i n69), (.i n16))] (fun t71 =>
A.cond t71 (
K [(.i n37), (.i n55), (.i n57), (.i (.ofNat 0))] h64) (
A.ari .add .u8 n37 (.ofNat 1) (fun n72 =>
s34 [(.i n72)] h64))))))))) (
A.ari .add .u8 n37 (.ofNat 1) (fun n73 =>
s34 [(.i n73)] h59)))))))))))))))))))) (
K [(.i (.ofNat 0)), (.i (.ofNat 0)), (.i (.ofNat 0)), (.i (.ofNat 7))] h36))))) [(.i (.ofNat 0))] h29)))))))))))))))))))))

/-- crimp/crimpref03.Between -/
noncomputable def f56 (ls : List Lf) (h : HT) (K : List Lf → HT → R) : R :=
A.unI ls (fun n6 l7 =>
A.unI l7 (fun n8 l9 =>
A.unI l9 (fun n10 l11 =>
A.unI l11 (fun n12 l13 =>
A.unI l13 (fun n14 l15 =>
A.unI l15 (fun n16 l17 =>
A.un0 l17 (
A.call 45 [(.i n12), (.i n14), (.i n16)] h (fun l18 h19 =>
A.unI l18 (fun n20 l21 =>
A.unI l21 (fun n22 l23 =>
A.unI l23 (fun n24 l25 =>
A.unI l25 (fun n26 l27 =>
A.unI l27 (fun n28 l29 =>
A.unI l29 (fun n30 l31 =>
A.un0 l31 (
A.opt (inB 3 (.ofNat 0)) (fun x32 =>
A.opt (pickL [(.i n20), (.i n22), (.i n24), (.i n26), (.i n28), (.i n30)] 0 [((.ofNat 0), 2)] 2) (fun x33 =>
A.unI x33 (fun n34 l35 =>
A.unI l35 (fun n36 l37 =>
A.un0 l37 (
A.loop (fun s38 l39 h40 =>
A.unI l39 (fun n41 l42 =>
A.unI l42 (fun n43 l44 =>
A.unI l44 (fun n45 l46 =>
A.unI l46 (fun n47 l48 =>
A.unI l48 (fun n49 l50 =>
A.un0 l50 (
A.cmp .lss n43 (.ofNat 8) (fun t51 =>
A.cond t51 (
A.call 45 [(.i n6), (.i n8), (.i n10)] h40 (fun l52 h53 =>
A.unI l52 (fun n54 l55 =>
A.unI l55 (fun n56 l57 =>
A.unI l57 (fun n58 l59 =>
A.unI l59 (fun n60 l61 =>
A.unI l61 (fun n62 l63 =>
A.unI l63 (fun n64 l65 =>
A.un0 l65 (
A.opt (inB 3 (.ofNat 0)) (fun x66 =>
A.opt (pickL [(.i n54), (.i n56), (.i n58), (.i n60), (.i n62), (.i n64)] 0 [((.ofNat 0), 2)] 2) (fun x67 =>
A.unI x67 (fun n68 l69 =>
A.unI l69 (fun n70 l71 =>
A.un0 l71 (
A.call 81 [(.i n43), (.i (.ofNat 0)), (.i (.ofNat 0)), (.i n68), (.i n70)] h53 (fun l72 h73 =>
A.unI l72 (fun n74 l75 =>
A.unI l75 (fun n76 l77 =>
A.un0 l77 (
A.ari .sub .i64 n34 n74 (fun n78 =>
A.ari .quo .i64 n78 (.ofNat 2) (fun n79 =>
A.ari .sub .i64 n36 n76 (fun n80 =>
A.ari .quo .i64 n80 (.ofNat 2) (fun n81 =>
A.call 53 [(.i n43), (.i n79), (.i n81)] h73 (fun l82 h83 =>
A.unI l82 (fun n84 l85 =>
A.un0 l85 (
A.cmp .eql n84 (.ofNat 1) (fun t86 =>
A.cond t86 (
A.call 54 [(.i n43), (.i n79), (.i n81), (.i n6), (.i n8), (.i n10)] h83 (fun l87 h88 =>
A.unI l87 (fun n89 l90 =>
A.unI l90 (fun n91 l92 =>
A.unI l92 (fun n93 l94 =>
A.un0 l94 (
A.eqs [((.i n89), (.i n12)), ((.i n91), (.i n14)), ((.i n93), (.i n16))] (fun t95 =>
A.join (fun l96 h97 =>
A.unI l96 (fun n98 l99 =>
A.unI l99 (fun n100 l101 =>
A.unI l101 (fun n102 l103 =>
A.unI l103 (fun n104 l105 =>
A.un0 l105 (
A.ari .add .u8 n43 (.ofNat 1) (fun n106 =>
s38 [(.i n98), (.i n106), (.i n100), (.i n102), (.i n104)] h97))))))) (fun j107 =>
A.cond t95 (
A.ari .add .i64 n41 (.ofNat 1) (fun n108 =>
j107 [(.i n108), (.i n43), (.i n79), (.i n81)] h88)) (
j107 [(.i n41), (.i n45), (.i n47), (.i n49)] h88))))))))) (
A.ari .add .u8 n43 (.ofNat 1) (fun n109 =>
s38 [(.i n41), (.i n109), (.i n45), (.i n47), (.i n49)] h83)))))))))))))))))))))))))))) (
K [(.i n45), (.i n47), (.i n49), (.i n41)] h40))))))))) [(.i (.ofNat 0)), (.i (.ofNat 0)), (.i (.ofNat 0)), (.i (.ofNat 0)), (.i (.ofNat 0))] h19))))))))))))))))))))

/-- crimp/crimpref03.Less -/
noncomputable def f57 (ls : List Lf) (h : HT) (K : List Lf → HT → R) : R :=
A.unI ls (fun n6 l7 =>
A.unI l7 (fun n8 l9 =>
A.unI l9 (fun n10 l11 =>
A.unI l11 (fun n12 l13 =>
A.unI l13 (fun n14 l15 =>
A.unI l15 (fun n16 l17 =>
A.un0 l17 (
A.cmp .lss n8 n14 (fun t18 =>
A.cond t18 (
K [(.i (.ofNat 1))] h) (
A.cmp .eql n8 n14 (fun t19 =>
A.cond t19 (
A.cmp .lss n6 n12 (fun t20 =>
A.cond t20 (
K [(.i (.ofNat 1))] h) (
A.cmp .eql n6 n12 (fun t21 =>
A.cond t21 (
A.cmp .lss n10 n16 (fun t22 =>
A.cond t22 (
K [(.i (.ofNat 1))] h) (
K [(.i (.ofNat 0))] h))) (
K [(.i (.ofNat 0))] h))))) (
K [(.i (.ofNat 0))] h)))))))))))

/-- crimp/cells.Compare -/
noncomputable def f58 (ls : List Lf) (h : HT) (K : List Lf → HT → R) : R :=
A.unI ls (fun n6 l7 =>
A.unI l7 (fun n8 l9 =>
A.unI l9 (fun n10 l11 =>
A.unI l11 (fun n12 l13 =>
A.unI l13 (fun n14 l15 =>
A.unI l15 (fun n16 l17 =>
A.un0 l17 (
A.conv .i64 n10 (fun n18 =>
A.conv .i64 n16 (fun n19 =>
A.new (.cells [(.int .i64 n8), (.int .i64 n14), (.int .i64 n6), (.int .i64 n12), (.int .i64 n18), (.int .i64 n19)] 2 true) h (fun m20 h21 =>
A.call 84 [(.v (.slice (some ⟨m20, 0, (some 12)⟩) 3 4))] h21 (fun l22 h23 =>
A.unI l22 (fun n24 l25 =>
A.un0 l25 (
K [(.i n24)] h23)))))))))))))

/-- (crimp/crimplaw03.C).Of -/
noncomputable def f59 (ls : List Lf) (h : HT) (K : List Lf → HT → R) : R :=
A.unI ls (fun n6 l7 =>
A.unI l7 (fun n8 l9 =>
A.unI l9 (fun n10 l11 =>
A.un0 l11 (
A.conv .i64 n6 (fun n12 =>
A.conv .i64 n8 (fun n13 =>
A.ari .rem .u8 n10 (.ofNat 4) (fun n14 =>
A.call 66 [(.i n12), (.i n13), (.i n14)] h (fun l15 h16 =>
A.unI l15 (fun n17 l18 =>
A.unI l18 (fun n19 l20 =>
A.unI l20 (fun n21 l22 =>
A.un0 l22 (
K [(.i n17), (.i n19), (.i n21)] h16))))))))))))

/-- crimp/moves.Identity -/
noncomputable def f60 (ls : List Lf) (h : HT) (K : List Lf → HT → R) : R :=
A.un0 ls (
K [(.i (.ofNat 0)), (.i (.ofNat 0)), (.i (.ofNat 0))] h)

/-- crimp/moves.Of -/
noncomputable def f61 (ls : List Lf) (h : HT) (K : List Lf → HT → R) : R :=
A.unI ls (fun n6 l7 =>
A.unI l7 (fun n8 l9 =>
A.un0 l9 (
A.call 74 [(.i n6), (.i n8)] h (fun l10 h11 =>
A.unI l10 (fun n12 l13 =>
A.un0 l13 (
A.cmp .neq n12 (.ofNat 0) (fun t14 =>
A.cond t14 (
K [(.i (.ofNat 0)), (.i (.ofNat 0)), (.i (.ofNat 0)), (.i (.ofNat 1))] h11) (
A.cmp .eql n6 (.ofNat 1) (fun t15 =>
A.cond t15 (
A.ari .mul .i64 (.ofNat 2) n8 (fun n16 =>
K [(.i (.ofNat 4)), (.i n16), (.i (.ofNat 0)), (.i (.ofNat 0))] h11)) (
A.cmp .eql n6 (.ofNat 2) (fun t17 =>
A.cond t17 (
A.ari .mul .i64 (.ofNat 2) n8 (fun n18 =>
K [(.i (.ofNat 6)), (.i (.ofNat 0)), (.i n18), (.i (.ofNat 0))] h11)) (
A.cmp .eql n6 (.ofNat 3) (fun t19 =>
A.cond t19 (
K [(.i (.ofNat 5)), (.i n8), (.i n8), (.i (.ofNat 0))] h11) (
A.ari .sub .i64 (.ofNat 0) n8 (fun n20 =>
K [(.i (.ofNat 7)), (.i n20), (.i n8), (.i (.ofNat 0))] h11)))))))))))))))

/-- crimp/moves.Then -/
noncomputable def f62 (ls : List Lf) (h : HT) (K : List Lf → HT → R) : R :=
A.unI ls (fun n6 l7 =>
A.unI l7 (fun n8 l9 =>
A.unI l9 (fun n10 l11 =>
A.unI l11 (fun n12 l13 =>
A.unI l13 (fun n14 l15 =>
A.unI l15 (fun n16 l17 =>
A.un0 l17 (
A.call 79 [(.i n6), (.i n8), (.i n10)] h (fun l18 h19 =>
A.unI l18 (fun n20 l21 =>
A.un0 l21 (
A.cmp .neq n20 (.ofNat 0) (fun t22 =>
A.cond t22 (
K [(.i (.ofNat 0)), (.i (.ofNat 0)), (.i (.ofNat 0)), (.i (.ofNat 1))] h19) (
A.call 79 [(.i n12), (.i n14), (.i n16)] h19 (fun l23 h24 =>
A.unI l23 (fun n25 l26 =>
A.un0 l26 (
A.cmp .neq n25 (.ofNat 0) (fun t27 =>
A.cond t27 (
K [(.i (.ofNat 0)), (.i (.ofNat 0)), (.i (.ofNat 0)), (.i (.ofNat 1))] h24) (
A.opt (inB 8 n12) (fun x28 =>
A.opt (pickV gl1 0 [(n12, 4)] 4) (fun x29 =>
A.ucI .i64 x29 (fun n30 l31 =>
A.ucI .i64 l31 (fun n32 l33 =>
A.ucI .i64 l33 (fun n34 l35 =>
A.ucI .i64 l35 (fun n36 l37 =>
A.uc0 l37 (
A.call 85 [(.i n30), (.i n32), (.i n34), (.i n36), (.i n8), (.i n10)] h24 (fun l38 h39 =>
A.unI l38 (fun n40 l41 =>
A.unI l41 (fun n42 l43 =>
A.un0 l43 (
A.opt (inB 8 n6) (fun x44 =>
A.opt (pickV gl1 0 [(n6, 4)] 4) (fun x45 =>
A.ucI .i64 x45 (fun n46 l47 =>
A.ucI .i64 l47 (fun n48 l49 =>
A.ucI .i64 l49 (fun n50 l51 =>
A.ucI .i64 l51 (fun n52 l53 =>
A.uc0 l53 (
A.opt (inB 8 n12) (fun x54 =>
A.opt (pickV gl1 0 [(n12, 4)] 4) (fun x55 =>
A.ucI .i64 x55 (fun n56 l57 =>
A.ucI .i64 l57 (fun n58 l59 =>
A.ucI .i64 l59 (fun n60 l61 =>
A.ucI .i64 l61 (fun n62 l63 =>
A.uc0 l63 (
A.call 88 [(.i n46), (.i n48), (.i n50), (.i n52), (.i n56), (.i n58), (.i n60), (.i n62)] h39 (fun l64 h65 =>
A.unI l64 (fun n66 l67 =>
A.unI l67 (fun n68 l69 =>
A.unI l69 (fun n70 l71 =>
A.unI l71 (fun n72 l73 =>
A.un0 l73 (
A.call 87 [(.i n66), (.i n68), (.i n70), (.i n72)] h65 (fun l74 h75 =>
A.unI l74 (fun n76 l77 =>
A.un0 l77 (
A.ari .add .i64 n40 n14 (fun n78 =>
A.ari .add .i64 n42 n16 (fun n79 =>
A.call 86 [(.i n76), (.i n78), (.i n79)] h75 (fun l80 h81 =>
A.unI l80 (fun n82 l83 =>
A.unI l83 (fun n84 l85 =>
A.unI l85 (fun n86 l87 =>
A.unI l87 (fun n88 l89 =>
A.un0 l89 (
K [(.i n82), (.i n84), (.i n86), (.i n88)] h81)))))))))))))))))))))))))))))))))))))))))))))))))))))))))))

/-- crimp/moves.Flips -/
noncomputable def f63 (ls : List Lf) (h : HT) (K : List Lf → HT → R) : R :=
A.unI ls (fun n6 l7 =>
A.unI l7 (fun n8 l9 =>
A.unI l9 (fun n10 l11 =>
A.un0 l11 (
A.join (fun l12 h13 =>
A.unB l12 (fun t14 l15 =>
A.un0 l15 (
K [(.b t14)] h13))) (fun j16 =>
A.call 79 [(.i n6), (.i n8), (.i n10)] h (fun l17 h18 =>
A.unI l17 (fun n19 l20 =>
A.un0 l20 (
A.cmp .eql n19 (.ofNat 0) (fun t21 =>
A.cond t21 (
A.cmp .geq n6 (.ofNat 4) (fun t22 =>
j16 [(.b t22)] h18)) (
j16 [(.b false)] h18))))))))))

/-- (crimp/crimplaw02.M).Of -/
noncomputable def f64 (ls : List Lf) (h : HT) (K : List Lf → HT → R) : R :=
A.unI ls (fun n6 l7 =>
A.unI l7 (fun n8 l9 =>
A.unI l9 (fun n10 l11 =>
A.un0 l11 (
A.ari .rem .u8 n6 (.ofNat 8) (fun n12 =>
A.conv .i64 n8 (fun n13 =>
A.conv .i64 n10 (fun n14 =>
A.ari .add .i64 n13 n14 (fun n15 =>
A.ari .rem .i64 n15 (.ofNat 2) (fun n16 =>
A.cmp .neq n16 (.ofNat 0) (fun t17 =>
A.join (fun l18 h19 =>
A.unI l18 (fun n20 l21 =>
A.unI l21 (fun n22 l23 =>
A.unI l23 (fun n24 l25 =>
A.un0 l25 (
K [(.i n20), (.i n22), (.i n24)] h19))))) (fun j26 =>
A.cond t17 (
A.ari .add .i64 n14 (.ofNat 1) (fun n27 =>
j26 [(.i n12), (.i n13), (.i n27)] h)) (
j26 [(.i n12), (.i n13), (.i n14)] h))))))))))))

/-- (crimp/crimplaw01.L).Of -/
noncomputable def f65 (ls : List Lf) (h : HT) (K : List Lf → HT → R) : R :=
A.unI ls (fun n6 l7 =>
A.unI l7 (fun n8 l9 =>
A.un0 l9 (
A.ari .rem .u8 n6 (.ofNat 4) (fun n10 =>
A.ari .add .u8 (.ofNat 1) n10 (fun n11 =>
A.conv .i64 n8 (fun n12 =>
K [(.i n11), (.i n12)] h))))))

/-- crimp/crimplaw03.cell -/
noncomputable def f66 (ls : List Lf) (h : HT) (K : List Lf → HT → R) : R :=
A.unI ls (fun n6 l7 =>
A.unI l7 (fun n8 l9 =>
A.unI l9 (fun n10 l11 =>
A.un0 l11 (
K [(.i n6), (.i n8), (.i n10)] h))))

/-- (crimp/sheets.Sheet).all -/
noncomputable def f67 (ls : List Lf) (h : HT) (K : List Lf → HT → R) : R :=
A.unI ls (fun n6 l7 =>
A.unI l7 (fun n8 l9 =>
A.un0 l9 (
A.new (.cells [(.int .i64 n6), (.int .i64 n8)] 2 true) h (fun m10 h11 =>
A.chk (.func (.func 89) ⟨[]⟩ ⟨[(.pointer (some ⟨m10, 0, none⟩))]⟩) (
K [(.v (.func (.func 89) ⟨[]⟩ ⟨[(.pointer (some ⟨m10, 0, none⟩))]⟩))] h11)))))

/-- slices.Clip[[]crimp/sheets.Unit,crimp/sheets.Unit] -/
noncomputable def f68 (ls : List Lf) (h : HT) (K : List Lf → HT → R) : R :=
A.unV ls (fun x6 l7 =>
A.un0 l7 (
A.opt (lenS x6) (fun x8 =>
A.opt (lenS x6) (fun x9 =>
A.opt (slS 2 x6 none (some x8) (some x9)) (fun x10 =>
A.chk x10 (
K [(.v x10)] h))))))

/-- crimp/sheets.named -/
noncomputable def f69 (ls : List Lf) (h : HT) (K : List Lf → HT → R) : R :=
A.unI ls (fun n6 l7 =>
A.unI l7 (fun n8 l9 =>
A.unI l9 (fun n10 l11 =>
A.unI l11 (fun n12 l13 =>
A.un0 l13 (
A.call 33 [(.i n6), (.i n8)] h (fun l14 h15 =>
A.unI l14 (fun n16 l17 =>
A.un0 l17 (
A.cmp .neq n16 (.ofNat 0) (fun t18 =>
A.cond t18 (
K [(.i (.ofNat 0)), (.i (.ofNat 0)), (.i (.ofNat 0)), (.i n16)] h15) (
A.call 19 [(.i n6), (.i n8), (.i n10), (.i n12)] h15 (fun l19 h20 =>
A.unI l19 (fun n21 l22 =>
A.unI l22 (fun n23 l24 =>
A.unI l24 (fun n25 l26 =>
A.un0 l26 (
A.cmp .neq n25 (.ofNat 0) (fun t27 =>
A.cond t27 (
K [(.i (.ofNat 0)), (.i (.ofNat 0)), (.i (.ofNat 0)), (.i (.ofNat 7))] h20) (
A.eqs [((.i n21), (.i n10)), ((.i n23), (.i n12))] (fun t28 =>
A.cond (!t28) (
K [(.i (.ofNat 0)), (.i (.ofNat 0)), (.i (.ofNat 0)), (.i (.ofNat 7))] h20) (
A.call 73 [(.i n6), (.i n8), (.i n10)] h20 (fun l29 h30 =>
A.unI l29 (fun n31 l32 =>
A.unI l32 (fun n33 l34 =>
A.unI l34 (fun n35 l36 =>
A.un0 l36 (
K [(.i n31), (.i n33), (.i n35), (.i (.ofNat 0))] h30))))))))))))))))))))))))

/-- crimp/crimpref01.Across -/
noncomputable def f70 (ls : List Lf) (h : HT) (K : List Lf → HT → R) : R :=
A.unI ls (fun n6 l7 =>
A.un0 l7 (
A.cmp .eql n6 (.ofNat 1) (fun t8 =>
A.cond t8 (
K [(.i (.ofNat 1)), (.i (.ofNat 0))] h) (
A.cmp .eql n6 (.ofNat 2) (fun t9 =>
A.cond t9 (
K [(.i (.ofNat 0)), (.i (.ofNat 1))] h) (
A.cmp .eql n6 (.ofNat 3) (fun t10 =>
A.cond t10 (
K [(.i (.ofNat 1)), (.i (.ofNat 1))] h) (
K [(.i (.negSucc 0)), (.i (.ofNat 1))] h))))))))

/-- slices.Clip[[]crimp/api.Point,crimp/api.Point] -/
noncomputable def f71 (ls : List Lf) (h : HT) (K : List Lf → HT → R) : R :=
A.unV ls (fun x6 l7 =>
A.un0 l7 (
A.opt (lenS x6) (fun x8 =>
A.opt (lenS x6) (fun x9 =>
A.opt (slS 2 x6 none (some x8) (some x9)) (fun x10 =>
A.chk x10 (
K [(.v x10)] h))))))

/-- (crimp/sheets.Sheet).has -/
noncomputable def f72 (ls : List Lf) (h : HT) (K : List Lf → HT → R) : R :=
A.unI ls (fun n6 l7 =>
A.unI l7 (fun n8 l9 =>
A.unI l9 (fun n10 l11 =>
A.un0 l11 (
A.join (fun l12 h13 =>
A.unB l12 (fun t14 l15 =>
A.un0 l15 (
K [(.b t14)] h13))) (fun j16 =>
A.cmp .geq n10 (.ofNat 0) (fun t17 =>
A.cond t17 (
A.ari .mul .i64 (.ofNat 4) n6 (fun n18 =>
A.ari .mul .i64 n18 n8 (fun n19 =>
A.cmp .lss n10 n19 (fun t20 =>
j16 [(.b t20)] h)))) (
j16 [(.b false)] h)))))))

/-- (crimp/sheets.Sheet).cell -/
noncomputable def f73 (ls : List Lf) (h : HT) (K : List Lf → HT → R) : R :=
A.unI ls (fun n6 l7 =>
A.unI l7 (fun n8 l9 =>
A.unI l9 (fun n10 l11 =>
A.un0 l11 (
A.ari .quo .i64 n10 (.ofNat 4) (fun n12 =>
A.ari .rem .i64 n12 n6 (fun n13 =>
A.ari .quo .i64 n10 (.ofNat 4) (fun n14 =>
A.ari .quo .i64 n14 n6 (fun n15 =>
A.ari .rem .i64 n10 (.ofNat 4) (fun n16 =>
A.conv .u8 n16 (fun n17 =>
K [(.i n13), (.i n15), (.i n17)] h))))))))))

/-- crimp/lines.Check -/
noncomputable def f74 (ls : List Lf) (h : HT) (K : List Lf → HT → R) : R :=
A.unI ls (fun n6 l7 =>
A.unI l7 (fun n8 l9 =>
A.un0 l9 (
A.cmp .lss n6 (.ofNat 1) (fun t10 =>
A.cond t10 (
K [(.i (.ofNat 1))] h) (
A.cmp .gtr n6 (.ofNat 4) (fun t11 =>
A.cond t11 (
K [(.i (.ofNat 1))] h) (
A.cmp .lss n8 (.negSucc 4095) (fun t12 =>
A.cond t12 (
K [(.i (.ofNat 1))] h) (
A.cmp .gtr n8 (.ofNat 4096) (fun t13 =>
A.cond t13 (
K [(.i (.ofNat 1))] h) (
K [(.i (.ofNat 0))] h)))))))))))

/-- crimp/crimplaw03.line -/
noncomputable def f75 (ls : List Lf) (h : HT) (K : List Lf → HT → R) : R :=
A.unI ls (fun n6 l7 =>
A.unI l7 (fun n8 l9 =>
A.un0 l9 (
K [(.i n6), (.i n8)] h)))

/-- crimp/crimpref01.Reflect -/
noncomputable def f76 (ls : List Lf) (h : HT) (K : List Lf → HT → R) : R :=
A.unI ls (fun n6 l7 =>
A.unI l7 (fun n8 l9 =>
A.unI l9 (fun n10 l11 =>
A.unI l11 (fun n12 l13 =>
A.un0 l13 (
A.call 70 [(.i n6)] h (fun l14 h15 =>
A.unI l14 (fun n16 l17 =>
A.unI l17 (fun n18 l19 =>
A.un0 l19 (
A.call 28 [(.i n6), (.i n8), (.i n10), (.i n12)] h15 (fun l20 h21 =>
A.unI l20 (fun n22 l23 =>
A.un0 l23 (
A.ari .mul .i64 (.ofNat 2) n22 (fun n24 =>
A.ari .mul .i64 n16 n16 (fun n25 =>
A.ari .mul .i64 n18 n18 (fun n26 =>
A.ari .add .i64 n25 n26 (fun n27 =>
A.ari .quo .i64 n24 n27 (fun n28 =>
A.ari .mul .i64 n28 n16 (fun n29 =>
A.ari .sub .i64 n10 n29 (fun n30 =>
A.ari .mul .i64 n28 n18 (fun n31 =>
A.ari .sub .i64 n12 n31 (fun n32 =>
K [(.i n30), (.i n32)] h21)))))))))))))))))))))

/-- crimp/crimpref03.With -/
noncomputable def f77 (ls : List Lf) (h : HT) (K : List Lf → HT → R) : R :=
A.unI ls (fun n6 l7 =>
A.unI l7 (fun n8 l9 =>
A.unI l9 (fun n10 l11 =>
A.unI l11 (fun n12 l13 =>
A.unI l13 (fun n14 l15 =>
A.unI l15 (fun n16 l17 =>
A.un0 l17 (
A.loop (fun s18 l19 h20 =>
A.unI l19 (fun n21 l22 =>
A.un0 l22 (
A.cmp .lss n21 (.ofNat 3) (fun t23 =>
A.cond t23 (
A.join (fun l24 h25 =>
A.un0 l24 (
A.ari .add .i64 n21 (.ofNat 1) (fun n26 =>
s18 [(.i n26)] h25))) (fun j27 =>
A.opt (inB 3 n21) (fun x28 =>
A.opt (pickL [(.i n6), (.i n8), (.i n10), (.i n12), (.i n14), (.i n16)] 0 [(n21, 2)] 2) (fun x29 =>
A.unI x29 (fun n30 l31 =>
A.unI l31 (fun n32 l33 =>
A.un0 l33 (
A.ari .add .i64 n21 (.ofNat 1) (fun n34 =>
A.ari .rem .i64 n34 (.ofNat 3) (fun n35 =>
A.opt (inB 3 n35) (fun x36 =>
A.opt (pickL [(.i n6), (.i n8), (.i n10), (.i n12), (.i n14), (.i n16)] 0 [(n35, 2)] 2) (fun x37 =>
A.unI x37 (fun n38 l39 =>
A.unI l39 (fun n40 l41 =>
A.un0 l41 (
A.ari .add .i64 n21 (.ofNat 2) (fun n42 =>
A.ari .rem .i64 n42 (.ofNat 3) (fun n43 =>
A.opt (inB 3 n43) (fun x44 =>
A.opt (pickL [(.i n6), (.i n8), (.i n10), (.i n12), (.i n14), (.i n16)] 0 [(n43, 2)] 2) (fun x45 =>
A.unI x45 (fun n46 l47 =>
A.unI l47 (fun n48 l49 =>
A.un0 l49 (
A.ari .rem .i64 n30 (.ofNat 2) (fun n50 =>
A.cmp .eql n50 (.ofNat 0) (fun t51 =>
A.cond t51 (
j27 [] h20) (
A.ari .rem .i64 n32 (.ofNat 2) (fun n52 =>
A.cmp .eql n52 (.ofNat 0) (fun t53 =>
A.cond t53 (
j27 [] h20) (
A.loop (fun s54 l55 h56 =>
A.unI l55 (fun n57 l58 =>
A.un0 l58 (
A.cmp .lss n57 (.ofNat 4) (fun t59 =>
A.cond t59 (
A.ari .sub .i64 n30 (.ofNat 1) (fun n60 =>
A.ari .quo .i64 n60 (.ofNat 2) (fun n61 =>
A.ari .sub .i64 n32 (.ofNat 1) (fun n62 =>
A.ari .quo .i64 n62 (.ofNat 2) (fun n63 =>
A.call 45 [(.i n61), (.i n63), (.i n57)] h56 (fun l64 h65 =>
A.unI l64 (fun n66 l67 =>
A.unI l67 (fun n68 l69 =>
A.unI l69 (fun n70 l71 =>
A.unI l71 (fun n72 l73 =>
A.unI l73 (fun n74 l75 =>
A.unI l75 (fun n76 l77 =>
A.un0 l77 (
A.eqs [((.i n70), (.i n38)), ((.i n72), (.i n40))] (fun t78 =>
A.cond t78 (
A.eqs [((.i n74), (.i n46)), ((.i n76), (.i n48))] (fun t79 =>
A.cond t79 (
K [(.i n61), (.i n63), (.i n57)] h65) (
A.eqs [((.i n70), (.i n46)), ((.i n72), (.i n48))] (fun t80 =>
A.cond t80 (
A.eqs [((.i n74), (.i n38)), ((.i n76), (.i n40))] (fun t81 =>
A.cond t81 (
K [(.i n61), (.i n63), (.i n57)] h65) (
A.ari .add .u8 n57 (.ofNat 1) (fun n82 =>
s54 [(.i n82)] h65)))) (
A.ari .add .u8 n57 (.ofNat 1) (fun n83 =>
s54 [(.i n83)] h65)))))) (
A.eqs [((.i n70), (.i n46)), ((.i n72), (.i n48))] (fun t84 =>
A.cond t84 (
A.eqs [((.i n74), (.i n38)), ((.i n76), (.i n40))] (fun t85 =>
A.cond t85 (
K [(.i n61), (.i n63), (.i n57)] h65) (
A.ari .add .u8 n57 (.ofNat 1) (fun n86 =>
s54 [(.i n86)] h65)))) (
A.ari .add .u8 n57 (.ofNat 1) (fun n87 =>
s54 [(.i n87)] h65)))))))))))))))))) (
j27 [] h56))))) [(.i (.ofNat 0))] h20))))))))))))))))))))))))))) (
K [(.i (.ofNat 0)), (.i (.ofNat 0)), (.i (.ofNat 4))] h20))))) [(.i (.ofNat 0))] h)))))))

/-- crimp/lines.Side -/
noncomputable def f78 (ls : List Lf) (h : HT) (K : List Lf → HT → R) : R :=
A.unI ls (fun n6 l7 =>
A.unI l7 (fun n8 l9 =>
A.unI l9 (fun n10 l11 =>
A.unI l11 (fun n12 l13 =>
A.un0 l13 (
A.call 74 [(.i n6), (.i n8)] h (fun l14 h15 =>
A.unI l14 (fun n16 l17 =>
A.un0 l17 (
A.cmp .neq n16 (.ofNat 0) (fun t18 =>
A.cond t18 (
K [(.i (.ofNat 0))] h15) (
A.call 90 [(.i n10), (.i n12)] h15 (fun l19 h20 =>
A.unI l19 (fun n21 l22 =>
A.un0 l22 (
A.cmp .neq n21 (.ofNat 0) (fun t23 =>
A.cond t23 (
K [(.i (.ofNat 0))] h20) (
A.call 91 [] h20 (fun l24 h25 =>
A.unV l24 (fun x26 l27 =>
A.unV l27 (fun x28 l29 =>
A.unV l29 (fun x30 l31 =>
A.unV l31 (fun x32 l33 =>
A.unV l33 (fun x34 l35 =>
A.unV l35 (fun x36 l37 =>
A.unV l37 (fun x38 l39 =>
A.unV l39 (fun x40 l41 =>
A.unV l41 (fun x42 l43 =>
A.unV l43 (fun x44 l45 =>
A.unV l45 (fun x46 l47 =>
A.unV l47 (fun x48 l49 =>
A.unV l49 (fun x50 l51 =>
A.unV l51 (fun x52 l53 =>
A.unV l53 (fun x54 l55 =>
A.un0 l55 (
A.opt (inB 5 n6) (fun x56 =>
A.opt (pickL [(.v x26), (.v x28), (.v x30), (.v x32), (.v x34), (.v x36), (.v x38), (.v x40), (.v x42), (.v x44), (.v x46), (.v x48), (.v x50), (.v x52), (.v x54)] 0 [(n6, 3)] 3) (fun x57 =>
A.unV x57 (fun x58 l59 =>
A.unV l59 (fun x60 l61 =>
A.unV l61 (fun x62 l63 =>
A.un0 l63 (
A.callv x58 [(.agg ⟨[(.int .i64 n10), (.int .i64 n12)]⟩)] [(.leaf (.i .i64))] h25 (fun l64 h65 =>
A.unI l64 (fun n66 l67 =>
A.un0 l67 (
A.ari .mul .i64 (.ofNat 2) n8 (fun n68 =>
A.cmp .lss n66 n68 (fun t69 =>
A.cond t69 (
K [(.i (.negSucc 0))] h65) (
A.ari .mul .i64 (.ofNat 2) n8 (fun n70 =>
A.cmp .gtr n66 n70 (fun t71 =>
A.cond t71 (
K [(.i (.ofNat 1))] h65) (
K [(.i (.ofNat 0))] h65)))))))))))))))))))))))))))))))))))))))))))))))

/-- crimp/moves.Check -/
noncomputable def f79 (ls : List Lf) (h : HT) (K : List Lf → HT → R) : R :=
A.unI ls (fun n6 l7 =>
A.unI l7 (fun n8 l9 =>
A.unI l9 (fun n10 l11 =>
A.un0 l11 (
A.conv .i64 n6 (fun n12 =>
A.cmp .geq n12 (.ofNat 8) (fun t13 =>
A.cond t13 (
K [(.i (.ofNat 1))] h) (
A.call 92 [(.i n8)] h (fun l14 h15 =>
A.unB l14 (fun t16 l17 =>
A.un0 l17 (
A.cond t16 (
K [(.i (.ofNat 1))] h15) (
A.call 92 [(.i n10)] h15 (fun l18 h19 =>
A.unB l18 (fun t20 l21 =>
A.un0 l21 (
A.cond t20 (
K [(.i (.ofNat 1))] h19) (
A.ari .add .i64 n8 n10 (fun n22 =>
A.ari .rem .i64 n22 (.ofNat 2) (fun n23 =>
A.cmp .neq n23 (.ofNat 0) (fun t24 =>
A.cond t24 (
K [(.i (.ofNat 1))] h19) (
K [(.i (.ofNat 0))] h19)))))))))))))))))))

/-- crimp/cells.moved -/
noncomputable def f80 (ls : List Lf) (h : HT) (K : List Lf → HT → R) : R :=
A.unI ls (fun n6 l7 =>
A.unI l7 (fun n8 l9 =>
A.unI l9 (fun n10 l11 =>
A.unI l11 (fun n12 l13 =>
A.unI l13 (fun n14 l15 =>
A.unI l15 (fun n16 l17 =>
A.un0 l17 (
A.call 82 [(.i n12), (.i n14), (.i n16)] h (fun l18 h19 =>
A.unI l18 (fun n20 l21 =>
A.unI l21 (fun n22 l23 =>
A.un0 l23 (
A.opt (inB 4 n16) (fun x24 =>
A.opt (pickV gl0 0 [(n16, 17)] 2) (fun x25 =>
A.ucI .i64 x25 (fun n26 l27 =>
A.ucI .i64 l27 (fun n28 l29 =>
A.uc0 l29 (
A.call 83 [(.i n6), (.i n8), (.i n10), (.i n20), (.i n22)] h19 (fun l30 h31 =>
A.unI l30 (fun n32 l33 =>
A.unI l33 (fun n34 l35 =>
A.unI l35 (fun n36 l37 =>
A.un0 l37 (
A.call 83 [(.i n6), (.i (.ofNat 0)), (.i (.ofNat 0)), (.i n26), (.i n28)] h31 (fun l38 h39 =>
A.unI l38 (fun n40 l41 =>
A.unI l41 (fun n42 l43 =>
A.unI l43 (fun n44 l45 =>
A.un0 l45 (
A.ari .and .i64 n32 (.ofNat 1) (fun n46 =>
A.ari .sub .i64 n32 n46 (fun n47 =>
A.ari .quo .i64 n47 (.ofNat 2) (fun n48 =>
A.ari .and .i64 n34 (.ofNat 1) (fun n49 =>
A.ari .sub .i64 n34 n49 (fun n50 =>
A.ari .quo .i64 n50 (.ofNat 2) (fun n51 =>
A.loop (fun s52 l53 h54 =>
A.unI l53 (fun n55 l56 =>
A.unI l56 (fun n57 l58 =>
A.unI l58 (fun n59 l60 =>
A.unI l60 (fun n61 l62 =>
A.un0 l62 (
A.cmp .lss n55 (.ofNat 4) (fun t63 =>
A.cond t63 (
A.opt (inB 4 n55) (fun x64 =>
A.opt (pickL [(.i (.ofNat 0)), (.i (.negSucc 0)), (.i (.ofNat 2)), (.i (.ofNat 0)), (.i (.ofNat 0)), (.i (.negSucc 0)), (.i (.ofNat 2)), (.i (.ofNat 0)), (.i (.ofNat 0)), (.i (.ofNat 1)), (.i (.ofNat 0)), (.i (.ofNat 0)), (.i (.ofNat 3)), (.i (.ofNat 0)), (.i (.ofNat 0)), (.i (.ofNat 2)), (.i (.ofNat 0)), (.i (.ofNat 1)), (.i (.ofNat 0)), (.i (.ofNat 1)), (.i (.ofNat 1)), (.i (.ofNat 1)), (.i (.ofNat 0)), (.i (.ofNat 3)), (.i (.ofNat 0)), (.i (.ofNat 0)), (.i (.ofNat 0)), (.i (.ofNat 0)), (.i (.ofNat 0)), (.i (.ofNat 2)), (.i (.ofNat 2)), (.i (.ofNat 2)), (.i (.ofNat 2)), (.i (.ofNat 0)), (.i (.ofNat 0)), (.i (.ofNat 1)), (.i (.ofNat 2)), (.i (.ofNat 1)), (.i (.ofNat 0)), (.i (.ofNat 1)), (.i (.ofNat 0)), (.i (.ofNat 0)), (.i (.ofNat 0)), (.i (.ofNat 3)), (.i (.ofNat 0)), (.i (.ofNat 0)), (.i (.ofNat 1)), (.i (.ofNat 2)), (.i (.ofNat 2)), (.i (.ofNat 0)), (.i (.ofNat 2)), (.i (.negSucc 0)), (.i (.ofNat 0)), (.i (.ofNat 1)), (.i (.ofNat 0)), (.i (.negSucc 0)), (.i (.ofNat 0)), (.i (.ofNat 1)), (.i (.ofNat 0)), (.i (.ofNat 0)), (.i (.ofNat 2)), (.i (.ofNat 0)), (.i (.ofNat 0)), (.i (.ofNat 0)), (.i (.ofNat 0)), (.i (.ofNat 0)), (.i (.ofNat 0)), (.i (.ofNat 2))] 0 [(n55, 17)] 17) (fun x65 =>
A.unI x65 (fun n66 l67 =>
A.unI l67 (fun n68 l69 =>
A.unI l69 (fun n70 l71 =>
A.unI l71 (fun n72 l73 =>
A.unI l73 (fun n74 l75 =>
A.unI l75 (fun n76 l77 =>
A.unI l77 (fun n78 l79 =>
A.unI l79 (fun n80 l81 =>
A.unI l81 (fun n82 l83 =>
A.unI l83 (fun n84 l85 =>
A.unI l85 (fun n86 l87 =>
A.unI l87 (fun n88 l89 =>
A.unI l89 (fun n90 l91 =>
A.unI l91 (fun n92 l93 =>
A.unI l93 (fun n94 l95 =>
A.unI l95 (fun n96 l97 =>
A.unI l97 (fun n98 l99 =>
A.un0 l99 (
A.eqs [((.i n66), (.i n40)), ((.i n68), (.i n42))] (fun t100 =>
A.join (fun l101 h102 =>
A.unI l101 (fun n103 l104 =>
A.unI l104 (fun n105 l106 =>
A.unI l106 (fun n107 l108 =>
A.un0 l108 (
A.ari .add .i64 n55 (.ofNat 1) (fun n109 =>
s52 [(.i n109), (.i n103), (.i n105), (.i n107)] h102)))))) (fun j110 =>
A.cond t100 (
A.conv .u8 n55 (fun n111 =>
j110 [(.i n57), (.i n59), (.i n111)] h54)) (
j110 [(.i n57), (.i n59), (.i n61)] h54)))))))))))))))))))))))) (
K [(.i n57), (.i n59), (.i n61)] h54)))))))) [(.i (.ofNat 0)), (.i n48), (.i n51), (.i (.ofNat 0))] h39))))))))))))))))))))))))))))))))

/-- crimp/crimpref02.Point -/
noncomputable def f81 (ls : List Lf) (h : HT) (K : List Lf → HT → R) : R :=
A.unI ls (fun n6 l7 =>
A.unI l7 (fun n8 l9 =>
A.unI l9 (fun n10 l11 =>
A.unI l11 (fun n12 l13 =>
A.unI l13 (fun n14 l15 =>
A.un0 l15 (
A.cmp .eql n6 (.ofNat 1) (fun t16 =>
A.join (fun l17 h18 =>
A.unI l17 (fun n19 l20 =>
A.unI l20 (fun n21 l22 =>
A.un0 l22 (
A.cmp .eql n6 (.ofNat 2) (fun t23 =>
A.join (fun l24 h25 =>
A.unI l24 (fun n26 l27 =>
A.unI l27 (fun n28 l29 =>
A.un0 l29 (
A.cmp .eql n6 (.ofNat 3) (fun t30 =>
A.join (fun l31 h32 =>
A.unI l31 (fun n33 l34 =>
A.unI l34 (fun n35 l36 =>
A.un0 l36 (
A.cmp .eql n6 (.ofNat 4) (fun t37 =>
A.join (fun l38 h39 =>
A.unI l38 (fun n40 l41 =>
A.unI l41 (fun n42 l43 =>
A.un0 l43 (
A.cmp .eql n6 (.ofNat 5) (fun t44 =>
A.join (fun l45 h46 =>
A.unI l45 (fun n47 l48 =>
A.unI l48 (fun n49 l50 =>
A.un0 l50 (
A.cmp .eql n6 (.ofNat 6) (fun t51 =>
A.join (fun l52 h53 =>
A.unI l52 (fun n54 l55 =>
A.unI l55 (fun n56 l57 =>
A.un0 l57 (
A.cmp .eql n6 (.ofNat 7) (fun t58 =>
A.join (fun l59 h60 =>
A.unI l59 (fun n61 l62 =>
A.unI l62 (fun n63 l64 =>
A.un0 l64 (
A.ari .mul .i64 (.ofNat 2) n8 (fun n65 =>
A.ari .add .i64 n61 n65 (fun n66 =>
A.ari .mul .i64 (.ofNat 2) n10 (fun n67 =>
A.ari .add .i64 n63 n67 (fun n68 =>
K [(.i n66), (.i n68)] h60)))))))) (fun j69 =>
A.cond t58 (
j69 [(.i n14), (.i n12)] h53) (
j69 [(.i n54), (.i n56)] h53))))))) (fun j70 =>
A.cond t51 (
A.ari .sub .i64 (.ofNat 0) n14 (fun n71 =>
j70 [(.i n12), (.i n71)] h46)) (
j70 [(.i n47), (.i n49)] h46))))))) (fun j72 =>
A.cond t44 (
A.ari .sub .i64 (.ofNat 0) n14 (fun n73 =>
A.ari .sub .i64 (.ofNat 0) n12 (fun n74 =>
j72 [(.i n73), (.i n74)] h39))) (
j72 [(.i n40), (.i n42)] h39))))))) (fun j75 =>
A.cond t37 (
A.ari .sub .i64 (.ofNat 0) n12 (fun n76 =>
j75 [(.i n76), (.i n14)] h32)) (
j75 [(.i n33), (.i n35)] h32))))))) (fun j77 =>
A.cond t30 (
A.ari .sub .i64 (.ofNat 0) n12 (fun n78 =>
j77 [(.i n14), (.i n78)] h25)) (
j77 [(.i n26), (.i n28)] h25))))))) (fun j79 =>
A.cond t23 (
A.ari .sub .i64 (.ofNat 0) n12 (fun n80 =>
A.ari .sub .i64 (.ofNat 0) n14 (fun n81 =>
j79 [(.i n80), (.i n81)] h18))) (
j79 [(.i n19), (.i n21)] h18))))))) (fun j82 =>
A.cond t16 (
A.ari .sub .i64 (.ofNat 0) n14 (fun n83 =>
j82 [(.i n83), (.i n12)] h)) (
j82 [(.i n12), (.i n14)] h)))))))))

/-- crimp/cells.middle -/
noncomputable def f82 (ls : List Lf) (h : HT) (K : List Lf → HT → R) : R :=
A.unI ls (fun n6 l7 =>
A.unI l7 (fun n8 l9 =>
A.unI l9 (fun n10 l11 =>
A.un0 l11 (
A.ari .mul .i64 (.ofNat 2) n6 (fun n12 =>
A.ari .add .i64 n12 (.ofNat 1) (fun n13 =>
A.ari .mul .i64 (.ofNat 2) n8 (fun n14 =>
A.ari .add .i64 n14 (.ofNat 1) (fun n15 =>
K [(.i n13), (.i n15)] h))))))))

/-- crimp/moves.Point -/
noncomputable def f83 (ls : List Lf) (h : HT) (K : List Lf → HT → R) : R :=
A.unI ls (fun n6 l7 =>
A.unI l7 (fun n8 l9 =>
A.unI l9 (fun n10 l11 =>
A.unI l11 (fun n12 l13 =>
A.unI l13 (fun n14 l15 =>
A.un0 l15 (
A.call 79 [(.i n6), (.i n8), (.i n10)] h (fun l16 h17 =>
A.unI l16 (fun n18 l19 =>
A.un0 l19 (
A.cmp .neq n18 (.ofNat 0) (fun t20 =>
A.cond t20 (
K [(.i (.ofNat 0)), (.i (.ofNat 0)), (.i (.ofNat 1))] h17) (
A.call 90 [(.i n12), (.i n14)] h17 (fun l21 h22 =>
A.unI l21 (fun n23 l24 =>
A.un0 l24 (
A.cmp .neq n23 (.ofNat 0) (fun t25 =>
A.cond t25 (
K [(.i (.ofNat 0)), (.i (.ofNat 0)), (.i (.ofNat 1))] h22) (
A.opt (inB 8 n6) (fun x26 =>
A.opt (pickV gl1 0 [(n6, 4)] 4) (fun x27 =>
A.ucI .i64 x27 (fun n28 l29 =>
A.ucI .i64 l29 (fun n30 l31 =>
A.ucI .i64 l31 (fun n32 l33 =>
A.ucI .i64 l33 (fun n34 l35 =>
A.uc0 l35 (
A.call 85 [(.i n28), (.i n30), (.i n32), (.i n34), (.i n12), (.i n14)] h22 (fun l36 h37 =>
A.unI l36 (fun n38 l39 =>
A.unI l39 (fun n40 l41 =>
A.un0 l41 (
A.ari .mul .i64 (.ofNat 2) n8 (fun n42 =>
A.ari .add .i64 n38 n42 (fun n43 =>
A.ari .mul .i64 (.ofNat 2) n10 (fun n44 =>
A.ari .add .i64 n40 n44 (fun n45 =>
A.call 90 [(.i n43), (.i n45)] h37 (fun l46 h47 =>
A.unI l46 (fun n48 l49 =>
A.un0 l49 (
A.cmp .neq n48 (.ofNat 0) (fun t50 =>
A.cond t50 (
K [(.i (.ofNat 0)), (.i (.ofNat 0)), (.i (.ofNat 3))] h47) (
K [(.i n43), (.i n45), (.i (.ofNat 0))] h47))))))))))))))))))))))))))))))))))))

/-- crimp/cells.order[int] -/
noncomputable def f84 (ls : List Lf) (h : HT) (K : List Lf → HT → R) : R :=
A.unV ls (fun x6 l7 =>
A.un0 l7 (
A.opt (lenS x6) (fun x8 =>
A.loop (fun s9 l10 h11 =>
A.unI l10 (fun n12 l13 =>
A.un0 l13 (
A.cmp .lss n12 x8 (fun t14 =>
A.cond t14 (
A.opt (idS 2 x6 n12) (fun x15 =>
A.peek (ldP 2 x15) h11 (fun l16 =>
A.ucI .i64 l16 (fun n17 l18 =>
A.ucI .i64 l18 (fun n19 l20 =>
A.uc0 l20 (
A.call 93 [(.i n17), (.i n19)] h11 (fun l21 h22 =>
A.unI l21 (fun n23 l24 =>
A.un0 l24 (
A.cmp .neq n23 (.ofNat 0) (fun t25 =>
A.cond t25 (
K [(.i n23)] h22) (
A.ari .add .i64 n12 (.ofNat 1) (fun n26 =>
s9 [(.i n26)] h22)))))))))))) (
K [(.i (.ofNat 0))] h11))))) [(.i (.ofNat 0))] h)))

/-- (crimp/moves.matrix).of -/
noncomputable def f85 (ls : List Lf) (h : HT) (K : List Lf → HT → R) : R :=
A.unI ls (fun n6 l7 =>
A.unI l7 (fun n8 l9 =>
A.unI l9 (fun n10 l11 =>
A.unI l11 (fun n12 l13 =>
A.unI l13 (fun n14 l15 =>
A.unI l15 (fun n16 l17 =>
A.un0 l17 (
A.ari .mul .i64 n6 n14 (fun n18 =>
A.ari .mul .i64 n8 n16 (fun n19 =>
A.ari .add .i64 n18 n19 (fun n20 =>
A.ari .mul .i64 n10 n14 (fun n21 =>
A.ari .mul .i64 n12 n16 (fun n22 =>
A.ari .add .i64 n21 n22 (fun n23 =>
K [(.i n20), (.i n23)] h)))))))))))))

/-- crimp/moves.limited -/
noncomputable def f86 (ls : List Lf) (h : HT) (K : List Lf → HT → R) : R :=
A.unI ls (fun n6 l7 =>
A.unI l7 (fun n8 l9 =>
A.unI l9 (fun n10 l11 =>
A.un0 l11 (
A.call 79 [(.i n6), (.i n8), (.i n10)] h (fun l12 h13 =>
A.unI l12 (fun n14 l15 =>
A.un0 l15 (
A.cmp .neq n14 (.ofNat 0) (fun t16 =>
A.cond t16 (
K [(.i (.ofNat 0)), (.i (.ofNat 0)), (.i (.ofNat 0)), (.i (.ofNat 3))] h13) (
K [(.i n6), (.i n8), (.i n10), (.i (.ofNat 0))] h13)))))))))

/-- crimp/moves.number -/
noncomputable def f87 (ls : List Lf) (h : HT) (K : List Lf → HT → R) : R :=
A.unI ls (fun n6 l7 =>
A.unI l7 (fun n8 l9 =>
A.unI l9 (fun n10 l11 =>
A.unI l11 (fun n12 l13 =>
A.un0 l13 (
A.loop (fun s14 l15 h16 =>
A.unI l15 (fun n17 l18 =>
A.un0 l18 (
A.cmp .lss n17 (.ofNat 8) (fun t19 =>
A.cond t19 (
A.opt (inB 8 n17) (fun x20 =>
A.opt (pickL [(.i (.ofNat 1)), (.i (.ofNat 0)), (.i (.ofNat 0)), (.i (.ofNat 1)), (.i (.ofNat 0)), (.i (.negSucc 0)), (.i (.ofNat 1)), (.i (.ofNat 0)), (.i (.negSucc 0)), (.i (.ofNat 0)), (.i (.ofNat 0)), (.i (.negSucc 0)), (.i (.ofNat 0)), (.i (.ofNat 1)), (.i (.negSucc 0)), (.i (.ofNat 0)), (.i (.negSucc 0)), (.i (.ofNat 0)), (.i (.ofNat 0)), (.i (.ofNat 1)), (.i (.ofNat 0)), (.i (.negSucc 0)), (.i (.negSucc 0)), (.i (.ofNat 0)), (.i (.ofNat 1)), (.i (.ofNat 0)), (.i (.ofNat 0)), (.i (.negSucc 0)), (.i (.ofNat 0)), (.i (.ofNat 1)), (.i (.ofNat 1)), (.i (.ofNat 0))] 0 [(n17, 4)] 4) (fun x21 =>
A.unI x21 (fun n22 l23 =>
A.unI l23 (fun n24 l25 =>
A.unI l25 (fun n26 l27 =>
A.unI l27 (fun n28 l29 =>
A.un0 l29 (
A.eqs [((.i n22), (.i n6)), ((.i n24), (.i n8)), ((.i n26), (.i n10)), ((.i n28), (.i n12))] (fun t30 =>
A.cond t30 (
A.conv .u8 n17 (fun n31 =>
K [(.i n31)] h16)) (
A.ari .add .i64 n17 (.ofNat 1) (fun n32 =>
s14 [(.i n32)] h16))))))))))) (
K [(.i (.ofNat 0))] h16))))) [(.i (.ofNat 0))] h)))))

/-- (crimp/moves.matrix).then -/
noncomputable def f88 (ls : List Lf) (h : HT) (K : List Lf → HT → R) : R :=
A.unI ls (fun n6 l7 =>
A.unI l7 (fun n8 l9 =>
A.unI l9 (fun n10 l11 =>
A.unI l11 (fun n12 l13 =>
A.unI l13 (fun n14 l15 =>
A.unI l15 (fun n16 l17 =>
A.unI l17 (fun n18 l19 =>
A.unI l19 (fun n20 l21 =>
A.un0 l21 (
A.call 85 [(.i n14), (.i n16), (.i n18), (.i n20), (.i n6), (.i n10)] h (fun l22 h23 =>
A.unI l22 (fun n24 l25 =>
A.unI l25 (fun n26 l27 =>
A.un0 l27 (
A.call 85 [(.i n14), (.i n16), (.i n18), (.i n20), (.i n8), (.i n12)] h23 (fun l28 h29 =>
A.unI l28 (fun n30 l31 =>
A.unI l31 (fun n32 l33 =>
A.un0 l33 (
K [(.i n24), (.i n30), (.i n26), (.i n32)] h29)))))))))))))))))

/-- (crimp/sheets.Sheet).all$1 -/
noncomputable def f89 (ls : List Lf) (h : HT) (K : List Lf → HT → R) : R :=
A.unV ls (fun x6 l7 =>
A.unV l7 (fun x8 l9 =>
A.un0 l9 (
A.peek (ldP 2 x8) h (fun l10 =>
A.ucI .i64 l10 (fun n11 l12 =>
A.ucI .i64 l12 (fun n13 l14 =>
A.uc0 l14 (
A.call 34 [(.i n11), (.i n13)] h (fun l15 h16 =>
A.unI l15 (fun n17 l18 =>
A.un0 l18 (
A.loop (fun s19 l20 h21 =>
A.unI l20 (fun n22 l23 =>
A.un0 l23 (
A.cmp .lss n22 n17 (fun t24 =>
A.cond t24 (
A.loop (fun s25 l26 h27 =>
A.unI l26 (fun n28 l29 =>
A.un0 l29 (
A.cmp .lss n28 (.ofNat 3) (fun t30 =>
A.cond t30 (
A.peek (ldP 2 x8) h27 (fun l31 =>
A.ucI .i64 l31 (fun n32 l33 =>
A.ucI .i64 l33 (fun n34 l35 =>
A.uc0 l35 (
A.call 18 [(.i n32), (.i n34), (.i n22), (.i n28)] h27 (fun l36 h37 =>
A.unI l36 (fun n38 l39 =>
A.unI l39 (fun n40 l41 =>
A.un0 l41 (
A.cmp .eql n40 (.ofNat 0) (fun t42 =>
A.cond t42 (
A.cmp .gtr n38 n22 (fun t43 =>
A.cond t43 (
A.callv x6 [(.agg ⟨[(.int .i64 n22), (.int .u8 n28)]⟩)] [(.leaf .b)] h37 (fun l44 h45 =>
A.unB l44 (fun t46 l47 =>
A.un0 l47 (
A.cond (!t46) (
K [] h45) (
A.ari .add .u8 n28 (.ofNat 1) (fun n48 =>
s25 [(.i n48)] h45)))))) (
A.ari .add .u8 n28 (.ofNat 1) (fun n49 =>
s25 [(.i n49)] h37)))) (
A.ari .add .u8 n28 (.ofNat 1) (fun n50 =>
s25 [(.i n50)] h37)))))))))))) (
A.ari .add .i64 n22 (.ofNat 1) (fun n51 =>
s19 [(.i n51)] h27)))))) [(.i (.ofNat 0))] h21) (
K [] h21))))) [(.i (.ofNat 0))] h16))))))))))

/-- crimp/lines.CheckPoint -/
noncomputable def f90 (ls : List Lf) (h : HT) (K : List Lf → HT → R) : R :=
A.unI ls (fun n6 l7 =>
A.unI l7 (fun n8 l9 =>
A.un0 l9 (
A.cmp .lss n6 (.negSucc 65535) (fun t10 =>
A.cond t10 (
K [(.i (.ofNat 1))] h) (
A.cmp .gtr n6 (.ofNat 65536) (fun t11 =>
A.cond t11 (
K [(.i (.ofNat 1))] h) (
A.cmp .lss n8 (.negSucc 65535) (fun t12 =>
A.cond t12 (
K [(.i (.ofNat 1))] h) (
A.cmp .gtr n8 (.ofNat 65536) (fun t13 =>
A.cond t13 (
K [(.i (.ofNat 1))] h) (
K [(.i (.ofNat 0))] h)))))))))))

/-- crimp/lines.rules -/
noncomputable def f91 (ls : List Lf) (h : HT) (K : List Lf → HT → R) : R :=
A.un0 ls (
A.new (.cells [(.int .u8 (.ofNat 0)), (.int .u8 (.ofNat 0)), (.int .u8 (.ofNat 0)), (.int .u8 (.ofNat 0)), (.int .u8 (.ofNat 0))] 1 true) h (fun m6 h7 =>
A.heap (stP (.pointer (some ⟨m6, 0, none⟩)) [(.int .u8 (.ofNat 0)), (.int .u8 (.ofNat 2)), (.int .u8 (.ofNat 1)), (.int .u8 (.ofNat 4)), (.int .u8 (.ofNat 3))]) h7 (fun l8 h9 =>
A.chk (.func (.func 103) ⟨[]⟩ ⟨[(.pointer (some ⟨m6, 0, none⟩))]⟩) (
A.chk (.func (.func 106) ⟨[]⟩ ⟨[(.pointer (some ⟨m6, 0, none⟩))]⟩) (
K [(.v .nilFunc), (.v .nilFunc), (.v .nilFunc), (.v (.func (.func 94) ⟨[]⟩ ⟨[]⟩)), (.v (.func (.func 96) ⟨[]⟩ ⟨[]⟩)), (.v (.func (.func 97) ⟨[]⟩ ⟨[]⟩)), (.v (.func (.func 98) ⟨[]⟩ ⟨[]⟩)), (.v (.func (.func 99) ⟨[]⟩ ⟨[]⟩)), (.v (.func (.func 100) ⟨[]⟩ ⟨[]⟩)), (.v (.func (.func 101) ⟨[]⟩ ⟨[]⟩)), (.v (.func (.func 102) ⟨[]⟩ ⟨[]⟩)), (.v (.func (.func 103) ⟨[]⟩ ⟨[(.pointer (some ⟨m6, 0, none⟩))]⟩)), (.v (.func (.func 104) ⟨[]⟩ ⟨[]⟩)), (.v (.func (.func 105) ⟨[]⟩ ⟨[]⟩)), (.v (.func (.func 106) ⟨[]⟩ ⟨[(.pointer (some ⟨m6, 0, none⟩))]⟩))] h9)))))

/-- crimp/moves.beyond -/
noncomputable def f92 (ls : List Lf) (h : HT) (K : List Lf → HT → R) : R :=
A.unI ls (fun n6 l7 =>
A.un0 l7 (
A.join (fun l8 h9 =>
A.unB l8 (fun t10 l11 =>
A.un0 l11 (
K [(.b t10)] h9))) (fun j12 =>
A.cmp .lss n6 (.negSucc 16383) (fun t13 =>
A.cond t13 (
j12 [(.b true)] h) (
A.cmp .gtr n6 (.ofNat 16384) (fun t14 =>
j12 [(.b t14)] h))))))

/-- cmp.Compare[int] -/
noncomputable def f93 (ls : List Lf) (h : HT) (K : List Lf → HT → R) : R :=
A.unI ls (fun n6 l7 =>
A.unI l7 (fun n8 l9 =>
A.un0 l9 (
A.call 107 [(.i n6)] h (fun l10 h11 =>
A.unB l10 (fun t12 l13 =>
A.un0 l13 (
A.call 107 [(.i n8)] h11 (fun l14 h15 =>
A.unB l14 (fun t16 l17 =>
A.un0 l17 (
A.cond t12 (
A.cond t16 (
K [(.i (.ofNat 0))] h15) (
K [(.i (.negSucc 0))] h15)) (
A.cond t16 (
K [(.i (.ofNat 1))] h15) (
A.cmp .lss n6 n8 (fun t18 =>
A.cond t18 (
K [(.i (.negSucc 0))] h15) (
A.cmp .gtr n6 n8 (fun t19 =>
A.cond t19 (
K [(.i (.ofNat 1))] h15) (
K [(.i (.ofNat 0))] h15)))))))))))))))

/-- crimp/lines.rules$1 -/
noncomputable def f94 (ls : List Lf) (h : HT) (K : List Lf → HT → R) : R :=
A.unI ls (fun n6 l7 =>
A.unI l7 (fun n8 l9 =>
A.un0 l9 (
A.call 95 [(.i (.ofNat 1)), (.i n6), (.i n8)] h (fun l10 h11 =>
A.unI l10 (fun n12 l13 =>
A.un0 l13 (
K [(.i n12)] h11))))))

/-- crimp/lines.along -/
noncomputable def f95 (ls : List Lf) (h : HT) (K : List Lf → HT → R) : R :=
A.unI ls (fun n6 l7 =>
A.unI l7 (fun n8 l9 =>
A.unI l9 (fun n10 l11 =>
A.un0 l11 (
A.cmp .eql n6 (.ofNat 1) (fun t12 =>
A.cond t12 (
K [(.i n8)] h) (
A.cmp .eql n6 (.ofNat 2) (fun t13 =>
A.cond t13 (
K [(.i n10)] h) (
A.cmp .eql n6 (.ofNat 3) (fun t14 =>
A.cond t14 (
A.ari .add .i64 n8 n10 (fun n15 =>
K [(.i n15)] h)) (
A.ari .sub .i64 n10 n8 (fun n16 =>
K [(.i n16)] h)))))))))))

/-- crimp/lines.rules$2 -/
noncomputable def f96 (ls : List Lf) (h : HT) (K : List Lf → HT → R) : R :=
A.unI ls (fun n6 l7 =>
A.unI l7 (fun n8 l9 =>
A.unI l9 (fun n10 l11 =>
A.un0 l11 (
A.ari .mul .i64 (.ofNat 4) n6 (fun n12 =>
A.ari .sub .i64 n12 n8 (fun n13 =>
K [(.i n13), (.i n10)] h))))))

/-- crimp/lines.rules$3 -/
noncomputable def f97 (ls : List Lf) (h : HT) (K : List Lf → HT → R) : R :=
A.unI ls (fun n6 l7 =>
A.unI l7 (fun n8 l9 =>
A.unI l9 (fun n10 l11 =>
A.un0 l11 (
A.ari .mul .i64 (.ofNat 2) n6 (fun n12 =>
A.ari .sub .i64 n12 n10 (fun n13 =>
A.ari .mul .i64 (.ofNat 2) n6 (fun n14 =>
A.ari .sub .i64 n10 n14 (fun n15 =>
A.ari .mul .i64 (.ofNat 2) n6 (fun n16 =>
A.ari .add .i64 n10 n16 (fun n17 =>
A.opt (inB 5 n8) (fun x18 =>
A.opt (pickL [(.i (.ofNat 0)), (.i (.ofNat 0)), (.i (.ofNat 1)), (.i n13), (.i n8), (.i n10), (.i (.ofNat 4)), (.i n15), (.i (.ofNat 3)), (.i n17)] 0 [(n8, 2)] 2) (fun x19 =>
A.unI x19 (fun n20 l21 =>
A.unI l21 (fun n22 l23 =>
A.un0 l23 (
K [(.i n20), (.i n22)] h)))))))))))))))

/-- crimp/lines.rules$4 -/
noncomputable def f98 (ls : List Lf) (h : HT) (K : List Lf → HT → R) : R :=
A.unI ls (fun n6 l7 =>
A.unI l7 (fun n8 l9 =>
A.un0 l9 (
A.call 95 [(.i (.ofNat 2)), (.i n6), (.i n8)] h (fun l10 h11 =>
A.unI l10 (fun n12 l13 =>
A.un0 l13 (
K [(.i n12)] h11))))))

/-- crimp/lines.rules$5 -/
noncomputable def f99 (ls : List Lf) (h : HT) (K : List Lf → HT → R) : R :=
A.unI ls (fun n6 l7 =>
A.unI l7 (fun n8 l9 =>
A.unI l9 (fun n10 l11 =>
A.un0 l11 (
A.ari .mul .i64 (.ofNat 4) n6 (fun n12 =>
A.ari .sub .i64 n12 n10 (fun n13 =>
K [(.i n8), (.i n13)] h))))))

/-- crimp/lines.rules$6 -/
noncomputable def f100 (ls : List Lf) (h : HT) (K : List Lf → HT → R) : R :=
A.unI ls (fun n6 l7 =>
A.unI l7 (fun n8 l9 =>
A.unI l9 (fun n10 l11 =>
A.un0 l11 (
A.ari .mul .i64 (.ofNat 2) n6 (fun n12 =>
A.ari .sub .i64 n12 n10 (fun n13 =>
A.ari .mul .i64 (.ofNat 2) n6 (fun n14 =>
A.ari .sub .i64 n14 n10 (fun n15 =>
A.ari .mul .i64 (.ofNat 2) n6 (fun n16 =>
A.ari .sub .i64 n16 n10 (fun n17 =>
A.opt (inB 5 n8) (fun x18 =>
A.opt (pickL [(.i (.ofNat 0)), (.i (.ofNat 0)), (.i n8), (.i n10), (.i (.ofNat 2)), (.i n13), (.i (.ofNat 4)), (.i n15), (.i (.ofNat 3)), (.i n17)] 0 [(n8, 2)] 2) (fun x19 =>
A.unI x19 (fun n20 l21 =>
A.unI l21 (fun n22 l23 =>
A.un0 l23 (
K [(.i n20), (.i n22)] h)))))))))))))))

/-- crimp/lines.rules$7 -/
noncomputable def f101 (ls : List Lf) (h : HT) (K : List Lf → HT → R) : R :=
A.unI ls (fun n6 l7 =>
A.unI l7 (fun n8 l9 =>
A.un0 l9 (
A.call 95 [(.i (.ofNat 3)), (.i n6), (.i n8)] h (fun l10 h11 =>
A.unI l10 (fun n12 l13 =>
A.un0 l13 (
K [(.i n12)] h11))))))

/-- crimp/lines.rules$8 -/
noncomputable def f102 (ls : List Lf) (h : HT) (K : List Lf → HT → R) : R :=
A.unI ls (fun n6 l7 =>
A.unI l7 (fun n8 l9 =>
A.unI l9 (fun n10 l11 =>
A.un0 l11 (
A.ari .mul .i64 (.ofNat 2) n6 (fun n12 =>
A.ari .sub .i64 n12 n10 (fun n13 =>
A.ari .mul .i64 (.ofNat 2) n6 (fun n14 =>
A.ari .sub .i64 n14 n8 (fun n15 =>
K [(.i n13), (.i n15)] h))))))))

/-- crimp/lines.rules$9 -/
noncomputable def f103 (ls : List Lf) (h : HT) (K : List Lf → HT → R) : R :=
A.unI ls (fun n6 l7 =>
A.unI l7 (fun n8 l9 =>
A.unI l9 (fun n10 l11 =>
A.unV l11 (fun x12 l13 =>
A.un0 l13 (
A.opt (idP 5 1 x12 n8) (fun x14 =>
A.chk x14 (
A.peek (ldP 1 x14) h (fun l15 =>
A.ucI .u8 l15 (fun n16 l17 =>
A.uc0 l17 (
A.ari .sub .i64 n6 n10 (fun n18 =>
A.opt (idP 5 1 x12 n8) (fun x19 =>
A.chk x19 (
A.peek (ldP 1 x19) h (fun l20 =>
A.ucI .u8 l20 (fun n21 l22 =>
A.uc0 l22 (
A.ari .sub .i64 n6 n10 (fun n23 =>
A.ari .mul .i64 (.ofNat 2) n6 (fun n24 =>
A.ari .sub .i64 n24 n10 (fun n25 =>
A.opt (inB 5 n8) (fun x26 =>
A.opt (pickL [(.i (.ofNat 0)), (.i (.ofNat 0)), (.i n16), (.i n18), (.i n21), (.i n23), (.i (.ofNat 3)), (.i n25), (.i n8), (.i n10)] 0 [(n8, 2)] 2) (fun x27 =>
A.unI x27 (fun n28 l29 =>
A.unI l29 (fun n30 l31 =>
A.un0 l31 (
K [(.i n28), (.i n30)] h))))))))))))))))))))))))

/-- crimp/lines.rules$10 -/
noncomputable def f104 (ls : List Lf) (h : HT) (K : List Lf → HT → R) : R :=
A.unI ls (fun n6 l7 =>
A.unI l7 (fun n8 l9 =>
A.un0 l9 (
A.call 95 [(.i (.ofNat 4)), (.i n6), (.i n8)] h (fun l10 h11 =>
A.unI l10 (fun n12 l13 =>
A.un0 l13 (
K [(.i n12)] h11))))))

/-- crimp/lines.rules$11 -/
noncomputable def f105 (ls : List Lf) (h : HT) (K : List Lf → HT → R) : R :=
A.unI ls (fun n6 l7 =>
A.unI l7 (fun n8 l9 =>
A.unI l9 (fun n10 l11 =>
A.un0 l11 (
A.ari .mul .i64 (.ofNat 2) n6 (fun n12 =>
A.ari .sub .i64 n10 n12 (fun n13 =>
A.ari .mul .i64 (.ofNat 2) n6 (fun n14 =>
A.ari .add .i64 n8 n14 (fun n15 =>
K [(.i n13), (.i n15)] h))))))))

/-- crimp/lines.rules$12 -/
noncomputable def f106 (ls : List Lf) (h : HT) (K : List Lf → HT → R) : R :=
A.unI ls (fun n6 l7 =>
A.unI l7 (fun n8 l9 =>
A.unI l9 (fun n10 l11 =>
A.unV l11 (fun x12 l13 =>
A.un0 l13 (
A.opt (idP 5 1 x12 n8) (fun x14 =>
A.chk x14 (
A.peek (ldP 1 x14) h (fun l15 =>
A.ucI .u8 l15 (fun n16 l17 =>
A.uc0 l17 (
A.ari .add .i64 n10 n6 (fun n18 =>
A.opt (idP 5 1 x12 n8) (fun x19 =>
A.chk x19 (
A.peek (ldP 1 x19) h (fun l20 =>
A.ucI .u8 l20 (fun n21 l22 =>
A.uc0 l22 (
A.ari .sub .i64 n10 n6 (fun n23 =>
A.ari .mul .i64 (.ofNat 2) n6 (fun n24 =>
A.ari .sub .i64 n24 n10 (fun n25 =>
A.opt (inB 5 n8) (fun x26 =>
A.opt (pickL [(.i (.ofNat 0)), (.i (.ofNat 0)), (.i n16), (.i n18), (.i n21), (.i n23), (.i n8), (.i n10), (.i (.ofNat 4)), (.i n25)] 0 [(n8, 2)] 2) (fun x27 =>
A.unI x27 (fun n28 l29 =>
A.unI l29 (fun n30 l31 =>
A.un0 l31 (
K [(.i n28), (.i n30)] h))))))))))))))))))))))))

/-- cmp.isNaN[int] -/
noncomputable def f107 (ls : List Lf) (h : HT) (K : List Lf → HT → R) : R :=
A.unI ls (fun n6 l7 =>
A.un0 l7 (
A.cmp .neq n6 n6 (fun t8 =>
K [(.b t8)] h)))

end
end Go.Am

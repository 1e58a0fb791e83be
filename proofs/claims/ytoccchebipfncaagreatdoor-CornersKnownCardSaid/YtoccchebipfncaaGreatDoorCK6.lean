/-
  PART 6 OF THE PROOF: Gb (no conditions).
-/
import Derived.Test.YtoccchebipfncaaGreatDoorCK5
set_option linter.unusedSectionVars false
set_option linter.unusedSimpArgs false
set_option linter.unusedVariables false
set_option linter.constructorNameAsVariable false
set_option linter.defProp false
/-
 THE FUNCTIONS IN THE DIRECT STYLE OF RUNS,BY PROGRAM;THE TABLE OF RUNS.
-/
set_option maxRecDepth 100000
namespace Go.Am
open Sx Go.Proofs
instance val0 : Val := ⟨fun _ => 0⟩
noncomputable instance kno0:Kno:=KnoC cc neuN
theorem mixed:cc.P.follows .mixedOrders=true:=by kernel_rfl
theorem mN(g:Nat)(vs:List Value)(h:cc.G g=some vs):vs.all flat=true:=by
 unfold cc at h
 simp only at h
 split at h<;>first|(cases h;done)|(obtain rfl:=Option.some.inj h;kernel_rfl)
theorem drN_ok:DrOk cc drN:=drOf_ok neuN_ok (fun _ _ _ _ _ (h:_∧_)=>h.1)
abbrev Ent(k:Nat)(g:FB):Prop:=mh cc ab ac k g
abbrev Cok(c:aa):Prop:=CallBOk cc ab ac c
theorem ng(f:FuncId)(sg:Sig)(ls rs:List Lf)(H':List HObj)(hs:ab f=some sg)(hp:sg.plain=true)(hc:bg cc ab f ls [] rs H'):∀H,bg cc ab f ls H rs H:=ct_of mixed mN hs hp hc
theorem ent_of{k:Nat}{g:aa→FB}{f:Alg RT HTr→FB}{ct:aa→aa}{fn:Fn1}(h0:g=fun c=>f (BA ab ac (ct c)))(h2:f=fun A ls h K=>az A (xc k) ab drN fn ls h K)(h3:FnIs (xc k) ab k fn){c:aa}(hc:Cok (ct c)):Ent k (g c):=by
 intro ls h K w hls hk
 rw[h0,h2]at hk
 obtain⟨rs,h',a1,_,a3⟩:=execF_ok (BA_ok (w:=w) hc) drN_ok h3 hls hk
 exact⟨rs,h',a1,a3⟩
theorem aB{k:Nat}{g:aa→FB}{f:Alg RT HTr→FB}{ct:aa→aa}{fn:Fn1}(h2:∀c ls h K,f (BA ab ac (ct c)) ls h K=g c ls h K)(h3:f=fun A ls h K=>az A (xc k) ab drN fn ls h K)(h4:FnIs (xc k) ab k fn){c:aa}(hc:Cok (ct c)):Ent k (g c):=
 ent_of (g:=g) (ct:=ct) (funext fun c=>funext fun ls=>funext fun h=>funext fun K=>(h2 c ls h K).symm) h3 h4 hc
theorem aN:∀p∈([]:List (Nat×FB)),Ent p.1 p.2:=fun _ h=>by cases h
theorem aC{k:Nat}{g:FB}{l:List (Nat×FB)}(h:Ent k g)(t:∀p∈l,Ent p.1 p.2):∀p∈(k,g) :: l,Ent p.1 p.2:=fun p hp=>by
 rcases List.mem_cons.1 hp with rfl|hp
 ·exact h
 ·exact t p hp
theorem ent_ro{k:Nat}{g:FB}{sg:Sig}(h:Ent k g)(h4:ab k=some sg)(h5:sg.rs.all SK.plain=true)(h6:neuN k=none):Ent k (pz g):=memoR_ok (fun ls0 rs H0 H' H σ hc hb hl=>call_ro mixed mN h4 h5 h6 σ hc hb hl) h
theorem aA{k:Nat}{g:FB}{sg:Sig}(h:Ent k g)(h4:ab k=some sg)(h5:sg.plain=true):Ent k (memo g):=memo_ok ng h h4 h5
/-- crimp/crimplaw09.point -/
noncomputable def ct5(c:aa):aa:=tblF [] c
noncomputable def b5(c:aa)(a0:Int)(a1:Int)(h:HTr)(K:Int→Int→HTr→RT):RT:=K a0 a1 h
noncomputable def wr5(c:aa):FB:=fun ls h K=>rI (fun J O=>rI (fun U V=>r0 (b5 c J U h (fun r0 a0 h=>K [.i r0,.i a0] h)) V) O) ls
noncomputable abbrev u_ii(K:Int→Int→HTr→RT)(rs:List Lf)(h:HTr):RT:=unIB rs fun r0 J=>unIB J fun O U=>un0B U (K r0 O h)
noncomputable def w5(c:aa):FB:=memo (wr5 c)
theorem pf5(c:aa)(ls:List Lf)(h:HTr)(K:List Lf→HTr→RT):f5 (BA ab ac (ct5 c)) ls h K=wr5 c ls h K:=q_rI (fun n6 l7=>q_rI (fun n8 l9=>q_r0 (rfl)))
theorem ok5{c:aa}(hc:Cok c):Ent 5 (w5 c):=aA (aB (f:=fun A=>f5 A) (ct:=ct5) pf5 (congrFun (congrFun e5 RT) HTr) i5 (ak hc aN)) rfl (by kernel_rfl)
/-- crimp/sheets.Check -/
noncomputable def ct56(c:aa):aa:=tblF [] c
noncomputable def b56(c:aa)(a0:Int)(a1:Int)(h:HTr)(K:Int→HTr→RT):RT:=cB ( cB ( cB ( cB ( mulK a0 a1 (fun c_=>al c_ (fun n14=>cB ( K (.ofNat (nat_lit 0)) h) ( K (.ofNat (nat_lit 1)) h) (notK (leZ n14 (.ofNat (nat_lit 256))))))) ( K (.ofNat (nat_lit 1)) h) (notK (leZ a1 (.ofNat (nat_lit 256))))) ( K (.ofNat (nat_lit 1)) h) (notK (leZ a0 (.ofNat (nat_lit 256))))) ( K (.ofNat (nat_lit 1)) h) (notK (leZ (.ofNat (nat_lit 1)) a1))) ( K (.ofNat (nat_lit 1)) h) (notK (leZ (.ofNat (nat_lit 1)) a0))
noncomputable def wr56(c:aa):FB:=fun ls h K=>rI (fun J O=>rI (fun U V=>r0 (b56 c J U h (fun r0 h=>K [.i r0] h)) V) O) ls
noncomputable abbrev u_i(K:Int→HTr→RT)(rs:List Lf)(h:HTr):RT:=unIB rs fun r0 J=>un0B J (K r0 h)
noncomputable def w56(c:aa):FB:=memo (wr56 c)
noncomputable def mc56(c:aa)(J:Int)(O:Int)(h:HTr)(K:Int→HTr→RT):RT:=fI J fun J=>fI O fun O=>@Option.rec _ (fun _=>RT) none (fun rs=>u_i K rs h) (b56 c J O .empty (fun r0 h=>tell [.i r0] h))
theorem vm56:(fun(c:aa) (a0:Int) (a1:Int) (h:HTr) (K:Int→HTr→RT)=>w56 c [.i a0,.i a1] h (u_i K))=fun c a0 a1 h K=>mc56 c a0 a1 h K:=by kernel_rfl
theorem qm56{c call:aa}(hct:call (.f 56)=w56 c){a0:Int}{a1:Int}{h:HTr}{K:List Lf→HTr→RT}{K':Int→HTr→RT}(hX:∀rs h,K rs h=u_i K' rs h):(BA ab ac call).call 56 [.i a0,.i a1] h K=mc56 c a0 a1 h K':=by
 obtain rfl:=fx hX
 exact aS rfl ((c3 hct _ _ _).trans (c5 vm56 c a0 a1 h K'))
theorem pf56(c:aa)(ls:List Lf)(h:HTr)(K:List Lf→HTr→RT):f56 (BA ab ac (ct56 c)) ls h K=wr56 c ls h K:=q_rI (fun n6 l7=>q_rI (fun n8 l9=>q_r0 (aK (af (rfl) (aK (af (rfl) (bu (af (rfl) (bu (af (rfl) (aH (fun n14=>bu (af (rfl) (rfl))))))))))))))
theorem ok56{c:aa}(hc:Cok c):Ent 56 (w56 c):=aA (aB (f:=fun A=>f56 A) (ct:=ct56) pf56 (congrFun (congrFun e56 RT) HTr) i56 (ak hc aN)) rfl (by kernel_rfl)
/-- slices.Clip[[]crimp/api.Point,crimp/api.Point] -/
noncomputable def ct62(c:aa):aa:=tblF [] c
noncomputable def b62(c:aa)(a0:Value)(h:HTr)(K:Value→HTr→RT):RT:=optB (lenS a0) (fun O=>optB (lenS a0) (fun U=>optB (slS 2 a0 none (some O) (some U)) (fun J=>chkB J ( K J h))))
noncomputable def wr62(c:aa):FB:=fun ls h K=>rV (fun J O=>r0 (b62 c J h (fun r0 h=>K [.v r0] h)) O) ls
noncomputable def w62(c:aa):FB:=wr62 c
theorem vb62:(fun(c:aa) (a0:Value) (h:HTr) (K:List Lf→HTr→RT)=>w62 c [.v a0] h K)=fun c a0 h K=>b62 c a0 h (fun r0 h=>K [.v r0] h):=by kernel_rfl
theorem qb62{c call:aa}(hct:call (.f 62)=w62 c){a0:Value}{h:HTr}{K:List Lf→HTr→RT}{K':Value→HTr→RT}(hX:∀r0 h,K [.v r0] h=K' r0 h):(BA ab ac call).call 62 [.v a0] h K=bD [.v a0] (b62 c a0 h K'):=by
 obtain rfl:K'=fun r0 h=>K [.v r0] h:=funext fun r0=>funext fun h=>(hX r0 h).symm
 exact fm rfl ((c3 hct _ _ _).trans (c4 vb62 c a0 h K))
theorem pf62(c:aa)(ls:List Lf)(h:HTr)(K:List Lf→HTr→RT):f62 (BA ab ac (ct62 c)) ls h K=wr62 c ls h K:=q_rV (fun x6 l7=>q_r0 (ai (fun x8=>ai (fun x9=>ai (fun x10=>aV (rfl))))))
theorem ok62{c:aa}(hc:Cok c):Ent 62 (w62 c):=aB (f:=fun A=>f62 A) (ct:=ct62) pf62 (congrFun (congrFun e62 RT) HTr) i62 (ak hc aN)
/-- crimp/sheets.Points -/
noncomputable def ct32(c:aa):aa:=tblF [(56,w56 c),(62,w62 c)] c
noncomputable def b32(c:aa)(a0:Int)(a1:Int)(h:HTr)(K:Value→Int→HTr→RT):RT:=mc56 c a0 a1 h (fun r_1 V=>cB ( bk (fun a5 a6 a2=>unVB a6 (fun J a7=>unIB a7 (fun n20 a8=>un0B a8 (mulK (.ofNat (nat_lit 2)) a1 (fun c_=>al c_ (fun n22=>cB ( bD [.v J] (b62 c J a2 (fun r_2 a9=>K r_2 (.ofNat (nat_lit 0)) a9))) ( bk (fun b0 b1 O=>unVB b1 (fun U b2=>unIB b2 (fun n29 b3=>un0B b3 (mulK (.ofNat (nat_lit 2)) a0 (fun c_=>al c_ (fun n31=>cB ( addK n20 (.ofNat (nat_lit 1)) (fun c_=>al c_ (fun n48=>a5 [.v U,.i n48] O))) ( @Bool.rec (fun _=>RT) (remK n29 (.ofNat (nat_lit 2)) (fun n33=>@Bool.rec (fun _=>RT) (remK n20 (.ofNat (nat_lit 2)) (fun n34=>bh (fun b4 b6=>unVB b4 (fun b7 b8=>un0B b8 (addK n29 (.ofNat (nat_lit 1)) (fun c_=>al c_ (fun n40=>b0 [.v b7,.i n40] b6))))) (fun a3=>cB ( a3 [.v U] O) ( newB (.cells [(.int .i64 n29),(.int .i64 n20)] 2 true) O (fun b9 c0=>apB ac cc 2 16 U (.slice (some ⟨b9,0,(some 12)⟩) 1 2) c0 (fun c1 d0=>ucVB c1 (fun a4 d1=>chkB a4 ( uc0B d1 ( a3 [.v a4] d0)))))) (eqZK n33 n34)))) none (isZ (.ofNat (nat_lit 2))))) none (isZ (.ofNat (nat_lit 2)))) (notK (leZ n31 n29)))))))) [.v J,.i (.ofNat (nat_lit 1))] a2) (notK (leZ n22 n20)))))))) [.v (.slice none 0 0),.i (.ofNat (nat_lit 1))] V) ( K (.slice none 0 0) r_1 V) (notK (eqZK r_1 (.ofNat (nat_lit 0)))))
noncomputable def wr32(c:aa):FB:=fun ls h K=>rI (fun J O=>rI (fun U V=>r0 (b32 c J U h (fun r0 a0 h=>K [.v r0,.i a0] h)) V) O) ls
noncomputable def w32(c:aa):FB:=wr32 c
theorem vb32:(fun(c:aa) (a0:Int) (a1:Int) (h:HTr) (K:List Lf→HTr→RT)=>w32 c [.i a0,.i a1] h K)=fun c a0 a1 h K=>b32 c a0 a1 h (fun r0 r1 h=>K [.v r0,.i r1] h):=by kernel_rfl
theorem qb32{c call:aa}(hct:call (.f 32)=w32 c){a0:Int}{a1:Int}{h:HTr}{K:List Lf→HTr→RT}{K':Value→Int→HTr→RT}(hX:∀r0 r1 h,K [.v r0,.i r1] h=K' r0 r1 h):(BA ab ac call).call 32 [.i a0,.i a1] h K=b32 c a0 a1 h K':=by
 obtain rfl:K'=fun r0 r1 h=>K [.v r0,.i r1] h:=funext fun r0=>funext fun r1=>funext fun h=>(hX r0 r1 h).symm
 exact aS rfl ((c3 hct _ _ _).trans (c5 vb32 c a0 a1 h K))
theorem pf32(c:aa)(ls:List Lf)(h:HTr)(K:List Lf→HTr→RT):f32 (BA ab ac (ct32 c)) ls h K=wr32 c ls h K:=q_rI (fun n6 l7=>q_rI (fun n8 l9=>q_r0 (qm56 rfl (fun l10 h11=>ae (fun n12 l13=>aj (bv (af (rfl) (aQ (fun s15 l16 h17=>du (fun x18 l19=>ae (fun n20 l21=>aj (aH (fun n22=>aK (af (aQ (fun s24 l25 h26=>du (fun x27 l28=>ae (fun n29 l30=>aj (aH (fun n31=>aK (af (cw (fun n33=>cw (fun n34=>bt (aO (fun l36 h37=>du (fun x38 l39=>aj (aq (fun n40=>rfl)))) (fun j41=>af (cv (fun m42 h43=>q_ap (fun l44 h45=>cN (fun x46 l47=>aV (aw (rfl)))))) (rfl)))))) (aq (fun n48=>rfl))))))))) (qb62 rfl (fun r_2 h50=>de (bP (rfl))))))))))))))))))
theorem ok32{c:aa}(hc:Cok c):Ent 32 (w32 c):=aB (f:=fun A=>f32 A) (ct:=ct32) pf32 (congrFun (congrFun e32 RT) HTr) i32 (ak hc (aC (ok56 hc) (aC (ok62 hc) aN)))
/-- crimp/corners.All -/
noncomputable def ct13(c:aa):aa:=tblF [(32,w32 c)] c
noncomputable def b13(c:aa)(a0:Int)(a1:Int)(h:HTr)(K:Value→Int→HTr→RT):RT:=b32 c a0 a1 h (fun r_1 r_2 J=>K r_1 r_2 J)
noncomputable def wr13(c:aa):FB:=fun ls h K=>rI (fun J O=>rI (fun U V=>r0 (b13 c J U h (fun r0 a0 h=>K [.v r0,.i a0] h)) V) O) ls
noncomputable def w13(c:aa):FB:=wr13 c
theorem pf13(c:aa)(ls:List Lf)(h:HTr)(K:List Lf→HTr→RT):f13 (BA ab ac (ct13 c)) ls h K=wr13 c ls h K:=q_rI (fun n6 l7=>q_rI (fun n8 l9=>q_r0 (qb32 rfl (fun r_1 r_2 h11=>de (cj (bP (rfl)))))))
theorem ok13{c:aa}(hc:Cok c):Ent 13 (w13 c):=aB (f:=fun A=>f13 A) (ct:=ct13) pf13 (congrFun (congrFun e13 RT) HTr) i13 (ak hc (aC (ok32 hc) aN))
/-- crimp/corners.corner -/
noncomputable def ct33(c:aa):aa:=tblF [(56,w56 c)] c
noncomputable def b33(c:aa)(a0:Int)(a1:Int)(a2:Int)(a3:Int)(h:HTr)(K:Int→HTr→RT):RT:=mc56 c a0 a1 h (fun r_1 J=>cB ( cB ( cB ( mulK (.ofNat (nat_lit 2)) a0 (fun c_=>al c_ (fun n21=>cB ( mulK (.ofNat (nat_lit 2)) a1 (fun c_=>al c_ (fun n23=>cB ( @Bool.rec (fun _=>RT) (remK a2 (.ofNat (nat_lit 2)) (fun n25=>@Bool.rec (fun _=>RT) (remK a3 (.ofNat (nat_lit 2)) (fun n26=>cB ( K (.ofNat (nat_lit 0)) J) ( K (.ofNat (nat_lit 7)) J) (notK (eqZK n25 n26)))) none (isZ (.ofNat (nat_lit 2))))) none (isZ (.ofNat (nat_lit 2)))) ( K (.ofNat (nat_lit 7)) J) (leZ n23 a3)))) ( K (.ofNat (nat_lit 7)) J) (leZ n21 a2)))) ( K (.ofNat (nat_lit 7)) J) (leZ a3 (.ofNat (nat_lit 0)))) ( K (.ofNat (nat_lit 7)) J) (leZ a2 (.ofNat (nat_lit 0)))) ( K r_1 J) (notK (eqZK r_1 (.ofNat (nat_lit 0)))))
noncomputable def wr33(c:aa):FB:=fun ls h K=>rI (fun J O=>rI (fun U V=>rI (fun a0 a1=>rI (fun a2 a3=>r0 (b33 c J U a0 a2 h (fun r0 h=>K [.i r0] h)) a3) a1) V) O) ls
noncomputable def w33(c:aa):FB:=memo (wr33 c)
noncomputable def mc33(c:aa)(J:Int)(O:Int)(U:Int)(V:Int)(h:HTr)(K:Int→HTr→RT):RT:=fI J fun J=>fI O fun O=>fI U fun U=>fI V fun V=>@Option.rec _ (fun _=>RT) none (fun rs=>u_i K rs h) (b33 c J O U V .empty (fun r0 h=>tell [.i r0] h))
theorem vm33:(fun(c:aa) (a0:Int) (a1:Int) (a2:Int) (a3:Int) (h:HTr) (K:Int→HTr→RT)=>w33 c [.i a0,.i a1,.i a2,.i a3] h (u_i K))=fun c a0 a1 a2 a3 h K=>mc33 c a0 a1 a2 a3 h K:=by kernel_rfl
theorem qm33{c call:aa}(hct:call (.f 33)=w33 c){a0:Int}{a1:Int}{a2:Int}{a3:Int}{h:HTr}{K:List Lf→HTr→RT}{K':Int→HTr→RT}(hX:∀rs h,K rs h=u_i K' rs h):(BA ab ac call).call 33 [.i a0,.i a1,.i a2,.i a3] h K=mc33 c a0 a1 a2 a3 h K':=by
 obtain rfl:=fx hX
 exact aS rfl ((c3 hct _ _ _).trans (c7 vm33 c a0 a1 a2 a3 h K'))
theorem pf33(c:aa)(ls:List Lf)(h:HTr)(K:List Lf→HTr→RT):f33 (BA ab ac (ct33 c)) ls h K=wr33 c ls h K:=q_rI (fun n6 l7=>q_rI (fun n8 l9=>q_rI (fun n10 l11=>q_rI (fun n12 l13=>q_r0 (qm56 rfl (fun l14 h15=>ae (fun n16 l17=>aj (bv (af (rfl) (kL (af (rfl) (kL (af (rfl) (aH (fun n21=>ki (af (rfl) (aH (fun n23=>ki (af (rfl) (cw (fun n25=>cw (fun n26=>bv (af (rfl) (rfl))))))))))))))))))))))))
theorem ok33{c:aa}(hc:Cok c):Ent 33 (w33 c):=aA (aB (f:=fun A=>f33 A) (ct:=ct33) pf33 (congrFun (congrFun e33 RT) HTr) i33 (ak hc (aC (ok56 hc) aN))) rfl (by kernel_rfl)
/-- crimp/corners.walk -/
noncomputable def ct34(c:aa):aa:=tblF [] c
noncomputable def b34(c:aa)(a0:Int)(a1:Int)(a2:Int)(a3:Int)(h:HTr)(K:Value→HTr→RT):RT:=newB (.cells [(.int .i64 a0),(.int .i64 a1)] 2 true) h (fun J U=>newB (.cells [(.int .i64 a2),(.int .i64 a3)] 2 true) U (fun O V=>chkB (.func (.func 63) ⟨[]⟩ ⟨[(.pointer (some ⟨O,0,none⟩)),(.pointer (some ⟨J,0,none⟩))]⟩) ( K (.func (.func 63) ⟨[]⟩ ⟨[(.pointer (some ⟨O,0,none⟩)),(.pointer (some ⟨J,0,none⟩))]⟩) V)))
noncomputable def wr34(c:aa):FB:=fun ls h K=>rI (fun J O=>rI (fun U V=>rI (fun a0 a1=>rI (fun a2 a3=>r0 (b34 c J U a0 a2 h (fun r0 h=>K [.v r0] h)) a3) a1) V) O) ls
noncomputable def w34(c:aa):FB:=wr34 c
theorem vb34:(fun(c:aa) (a0:Int) (a1:Int) (a2:Int) (a3:Int) (h:HTr) (K:List Lf→HTr→RT)=>w34 c [.i a0,.i a1,.i a2,.i a3] h K)=fun c a0 a1 a2 a3 h K=>b34 c a0 a1 a2 a3 h (fun r0 h=>K [.v r0] h):=by kernel_rfl
theorem qb34{c call:aa}(hct:call (.f 34)=w34 c){a0:Int}{a1:Int}{a2:Int}{a3:Int}{h:HTr}{K:List Lf→HTr→RT}{K':Value→HTr→RT}(hX:∀r0 h,K [.v r0] h=K' r0 h):(BA ab ac call).call 34 [.i a0,.i a1,.i a2,.i a3] h K=b34 c a0 a1 a2 a3 h K':=by
 obtain rfl:K'=fun r0 h=>K [.v r0] h:=funext fun r0=>funext fun h=>(hX r0 h).symm
 exact aS rfl ((c3 hct _ _ _).trans (c7 vb34 c a0 a1 a2 a3 h K))
theorem pf34(c:aa)(ls:List Lf)(h:HTr)(K:List Lf→HTr→RT):f34 (BA ab ac (ct34 c)) ls h K=wr34 c ls h K:=q_rI (fun n6 l7=>q_rI (fun n8 l9=>q_rI (fun n10 l11=>q_rI (fun n12 l13=>q_r0 (cv (fun m14 h15=>cv (fun m16 h17=>aV (rfl))))))))
theorem ok34{c:aa}(hc:Cok c):Ent 34 (w34 c):=aB (f:=fun A=>f34 A) (ct:=ct34) pf34 (congrFun (congrFun e34 RT) HTr) i34 (ak hc aN)
noncomputable def ct35(c:aa):aa:=tblF [] c
noncomputable def b35(c:aa)(a0:Value)(h:HTr)(K:Value→HTr→RT):RT:=optB (lenS a0) (fun O=>optB (lenS a0) (fun U=>optB (slS 1 a0 none (some O) (some U)) (fun J=>chkB J ( K J h))))
noncomputable def wr35(c:aa):FB:=fun ls h K=>rV (fun J O=>r0 (b35 c J h (fun r0 h=>K [.v r0] h)) O) ls
noncomputable def w35(c:aa):FB:=wr35 c
theorem vb35:(fun(c:aa) (a0:Value) (h:HTr) (K:List Lf→HTr→RT)=>w35 c [.v a0] h K)=fun c a0 h K=>b35 c a0 h (fun r0 h=>K [.v r0] h):=by kernel_rfl
theorem qb35{c call:aa}(hct:call (.f 35)=w35 c){a0:Value}{h:HTr}{K:List Lf→HTr→RT}{K':Value→HTr→RT}(hX:∀r0 h,K [.v r0] h=K' r0 h):(BA ab ac call).call 35 [.v a0] h K=bD [.v a0] (b35 c a0 h K'):=by
 obtain rfl:K'=fun r0 h=>K [.v r0] h:=funext fun r0=>funext fun h=>(hX r0 h).symm
 exact fm rfl ((c3 hct _ _ _).trans (c4 vb35 c a0 h K))
theorem pf35(c:aa)(ls:List Lf)(h:HTr)(K:List Lf→HTr→RT):f35 (BA ab ac (ct35 c)) ls h K=wr35 c ls h K:=q_rV (fun x6 l7=>q_r0 (ai (fun x8=>ai (fun x9=>ai (fun x10=>aV (rfl))))))
theorem ok35{c:aa}(hc:Cok c):Ent 35 (w35 c):=aB (f:=fun A=>f35 A) (ct:=ct35) pf35 (congrFun (congrFun e35 RT) HTr) i35 (ak hc aN)
/-- crimp/corners.Around -/
noncomputable def ct15(c:aa):aa:=tblF [(33,w33 c),(34,w34 c),(35,w35 c)] c
noncomputable def b15(c:aa)(a0:Int)(a1:Int)(a2:Int)(a3:Int)(h:HTr)(K:Value→Int→HTr→RT):RT:=mc33 c a0 a1 a2 a3 h (fun r_1 U=>cB ( newB (.cells [(.slice none 0 0)] 1 true) U (fun V a4=>b34 c a0 a1 a2 a3 a4 (fun r_2 a5=>pK ab (ct15 c) 240 r_2 [(.pointer (some ⟨V,0,none⟩))] a5 (fun a6 J=>pendB a6 ( lgB cc 1 (.pointer (some ⟨V,0,none⟩)) J (fun a7=>ucVB a7 (fun O a8=>chkB O ( uc0B a8 ( bD [.v O] (b35 c O J (fun r_3 a9=>K r_3 (.ofNat (nat_lit 0)) a9))))))) ( K (.slice none 0 0) (.ofNat (nat_lit 0)) J) [])))) ( K (.slice none 0 0) r_1 U) (notK (eqZK r_1 (.ofNat (nat_lit 0)))))
noncomputable def wr15(c:aa):FB:=fun ls h K=>rI (fun J O=>rI (fun U V=>rI (fun a0 a1=>rI (fun a2 a3=>r0 (b15 c J U a0 a2 h (fun r0 a4 h=>K [.v r0,.i a4] h)) a3) a1) V) O) ls
noncomputable def w15(c:aa):FB:=wr15 c
theorem pf15(c:aa)(ls:List Lf)(h:HTr)(K:List Lf→HTr→RT):f15 (BA ab ac (ct15 c)) ls h K=wr15 c ls h K:=q_rI (fun n6 l7=>q_rI (fun n8 l9=>q_rI (fun n10 l11=>q_rI (fun n12 l13=>q_r0 (qm33 rfl (fun l14 h15=>ae (fun n16 l17=>aj (bv (af (rfl) (cv (fun m19 h20=>qb34 rfl (fun r_2 h22=>de (bP (q_rfun (fun p25 h26=>q_pend (q_lg (fun l27=>cN (fun x28 l29=>aV (aw (qb35 rfl (fun r_3 h31=>de (bP (rfl)))))))) (rfl) rfl)))))))))))))))
theorem ok15{c:aa}(hc:Cok c):Ent 15 (w15 c):=aB (f:=fun A=>f15 A) (ct:=ct15) pf15 (congrFun (congrFun e15 RT) HTr) i15 (ak hc (aC (ok33 hc) (aC (ok34 hc) (aC (ok35 hc) aN))))
/-- (crimp/sheets.Sheet).has -/
noncomputable def ct77(c:aa):aa:=tblF [] c
noncomputable def b77(c:aa)(a0:Int)(a1:Int)(a2:Int)(h:HTr)(K:Bool→HTr→RT):RT:=bh (fun O U=>unBB O (fun V a3=>un0B a3 (K V U))) (fun J=>cB ( J [.b false] h) ( mulK (.ofNat (nat_lit 4)) a0 (fun c_=>al c_ (fun n18=>mulK n18 a1 (fun c_=>al c_ (fun n19=>J [.b (notK (leZ n19 a2))] h))))) (leZ (.ofNat (nat_lit 0)) a2))
noncomputable def wr77(c:aa):FB:=fun ls h K=>rI (fun J O=>rI (fun U V=>rI (fun a0 a1=>r0 (b77 c J U a0 h (fun r0 h=>K [.b r0] h)) a1) V) O) ls
noncomputable abbrev u_b(K:Bool→HTr→RT)(rs:List Lf)(h:HTr):RT:=unBB rs fun r0 J=>un0B J (K r0 h)
noncomputable def w77(c:aa):FB:=memo (wr77 c)
noncomputable def mc77(c:aa)(J:Int)(O:Int)(U:Int)(h:HTr)(K:Bool→HTr→RT):RT:=fI J fun J=>fI O fun O=>fI U fun U=>@Option.rec _ (fun _=>RT) none (fun rs=>u_b K rs h) (b77 c J O U .empty (fun r0 h=>tell [.b r0] h))
theorem vm77:(fun(c:aa) (a0:Int) (a1:Int) (a2:Int) (h:HTr) (K:Bool→HTr→RT)=>w77 c [.i a0,.i a1,.i a2] h (u_b K))=fun c a0 a1 a2 h K=>mc77 c a0 a1 a2 h K:=by kernel_rfl
theorem qm77{c call:aa}(hct:call (.f 77)=w77 c){a0:Int}{a1:Int}{a2:Int}{h:HTr}{K:List Lf→HTr→RT}{K':Bool→HTr→RT}(hX:∀rs h,K rs h=u_b K' rs h):(BA ab ac call).call 77 [.i a0,.i a1,.i a2] h K=mc77 c a0 a1 a2 h K':=by
 obtain rfl:=fx hX
 exact aS rfl ((c3 hct _ _ _).trans (c6 vm77 c a0 a1 a2 h K'))
theorem pf77(c:aa)(ls:List Lf)(h:HTr)(K:List Lf→HTr→RT):f77 (BA ab ac (ct77 c)) ls h K=wr77 c ls h K:=q_rI (fun n6 l7=>q_rI (fun n8 l9=>q_rI (fun n10 l11=>q_r0 (aO (fun l12 h13=>fL (fun t14 l15=>aj (rfl))) (fun j16=>ki (af (aH (fun n18=>aH (fun n19=>aK (rfl)))) (rfl)))))))
theorem ok77{c:aa}(hc:Cok c):Ent 77 (w77 c):=aA (aB (f:=fun A=>f77 A) (ct:=ct77) pf77 (congrFun (congrFun e77 RT) HTr) i77 (ak hc aN)) rfl (by kernel_rfl)
/-- (crimp/sheets.Sheet).cell -/
noncomputable def ct78(c:aa):aa:=tblF [] c
noncomputable def b78(c:aa)(a0:Int)(a1:Int)(a2:Int)(h:HTr)(K:Int→Int→Int→HTr→RT):RT:=@Bool.rec (fun _=>RT) (quoK a2 (.ofNat (nat_lit 4)) (fun c_=>al c_ (fun n12=>@Bool.rec (fun _=>RT) (remK n12 a0 (fun n13=>@Bool.rec (fun _=>RT) (quoK a2 (.ofNat (nat_lit 4)) (fun c_=>al c_ (fun n14=>@Bool.rec (fun _=>RT) (quoK n14 a0 (fun c_=>al c_ (fun n15=>@Bool.rec (fun _=>RT) (remK a2 (.ofNat (nat_lit 4)) (fun n16=>em n16 (fun n17=>K n13 n15 n17 h))) none (isZ (.ofNat (nat_lit 4)))))) none (isZ a0)))) none (isZ (.ofNat (nat_lit 4))))) none (isZ a0)))) none (isZ (.ofNat (nat_lit 4)))
noncomputable def wr78(c:aa):FB:=fun ls h K=>rI (fun J O=>rI (fun U V=>rI (fun a0 a1=>r0 (b78 c J U a0 h (fun r0 a2 a3 h=>K [.i r0,.i a2,.i a3] h)) a1) V) O) ls
noncomputable abbrev eP(K:Int→Int→Int→HTr→RT)(rs:List Lf)(h:HTr):RT:=unIB rs fun r0 J=>unIB J fun O U=>unIB U fun V a0=>un0B a0 (K r0 O V h)
noncomputable def w78(c:aa):FB:=memo (wr78 c)
noncomputable def mc78(c:aa)(J:Int)(O:Int)(U:Int)(h:HTr)(K:Int→Int→Int→HTr→RT):RT:=fI J fun J=>fI O fun O=>fI U fun U=>@Option.rec _ (fun _=>RT) none (fun rs=>eP K rs h) (b78 c J O U .empty (fun r0 V a0 h=>tell [.i r0,.i V,.i a0] h))
theorem vm78:(fun(c:aa) (a0:Int) (a1:Int) (a2:Int) (h:HTr) (K:Int→Int→Int→HTr→RT)=>w78 c [.i a0,.i a1,.i a2] h (eP K))=fun c a0 a1 a2 h K=>mc78 c a0 a1 a2 h K:=by kernel_rfl
theorem qm78{c call:aa}(hct:call (.f 78)=w78 c){a0:Int}{a1:Int}{a2:Int}{h:HTr}{K:List Lf→HTr→RT}{K':Int→Int→Int→HTr→RT}(hX:∀rs h,K rs h=eP K' rs h):(BA ab ac call).call 78 [.i a0,.i a1,.i a2] h K=mc78 c a0 a1 a2 h K':=by
 obtain rfl:=fx hX
 exact aS rfl ((c3 hct _ _ _).trans (c6 vm78 c a0 a1 a2 h K'))
theorem pf78(c:aa)(ls:List Lf)(h:HTr)(K:List Lf→HTr→RT):f78 (BA ab ac (ct78 c)) ls h K=wr78 c ls h K:=q_rI (fun n6 l7=>q_rI (fun n8 l9=>q_rI (fun n10 l11=>q_r0 (cX (fun n12=>cw (fun n13=>cX (fun n14=>cX (fun n15=>cw (fun n16=>jl (fun n17=>rfl))))))))))
theorem ok78{c:aa}(hc:Cok c):Ent 78 (w78 c):=aA (aB (f:=fun A=>f78 A) (ct:=ct78) pf78 (congrFun (congrFun e78 RT) HTr) i78 (ak hc aN)) rfl (by kernel_rfl)
/-- crimp/sheets.Cell -/
noncomputable def ct48(c:aa):aa:=tblF [(56,w56 c),(77,w77 c),(78,w78 c)] c
noncomputable def b48(c:aa)(a0:Int)(a1:Int)(a2:Int)(h:HTr)(K:Int→Int→Int→Int→HTr→RT):RT:=mc56 c a0 a1 h (fun r_1 J=>cB ( mc77 c a0 a1 a2 J (fun r_2 O=>cB ( mc78 c a0 a1 a2 O (fun r_3 r_4 r_5 U=>K r_3 r_4 r_5 (.ofNat (nat_lit 0)) U)) ( K (.ofNat (nat_lit 0)) (.ofNat (nat_lit 0)) (.ofNat (nat_lit 0)) (.ofNat (nat_lit 7)) O) (!r_2))) ( K (.ofNat (nat_lit 0)) (.ofNat (nat_lit 0)) (.ofNat (nat_lit 0)) r_1 J) (notK (eqZK r_1 (.ofNat (nat_lit 0)))))
noncomputable def wr48(c:aa):FB:=fun ls h K=>rI (fun J O=>rI (fun U V=>rI (fun a0 a1=>r0 (b48 c J U a0 h (fun r0 a2 a3 a4 h=>K [.i r0,.i a2,.i a3,.i a4] h)) a1) V) O) ls
noncomputable abbrev dN(K:Int→Int→Int→Int→HTr→RT)(rs:List Lf)(h:HTr):RT:=unIB rs fun r0 J=>unIB J fun O U=>unIB U fun V a0=>unIB a0 fun a1 a2=>un0B a2 (K r0 O V a1 h)
noncomputable def w48(c:aa):FB:=memo (wr48 c)
noncomputable def mc48(c:aa)(J:Int)(O:Int)(U:Int)(h:HTr)(K:Int→Int→Int→Int→HTr→RT):RT:=fI J fun J=>fI O fun O=>fI U fun U=>@Option.rec _ (fun _=>RT) none (fun rs=>dN K rs h) (b48 c J O U .empty (fun r0 V a0 a1 h=>tell [.i r0,.i V,.i a0,.i a1] h))
theorem vm48:(fun(c:aa) (a0:Int) (a1:Int) (a2:Int) (h:HTr) (K:Int→Int→Int→Int→HTr→RT)=>w48 c [.i a0,.i a1,.i a2] h (dN K))=fun c a0 a1 a2 h K=>mc48 c a0 a1 a2 h K:=by kernel_rfl
theorem qm48{c call:aa}(hct:call (.f 48)=w48 c){a0:Int}{a1:Int}{a2:Int}{h:HTr}{K:List Lf→HTr→RT}{K':Int→Int→Int→Int→HTr→RT}(hX:∀rs h,K rs h=dN K' rs h):(BA ab ac call).call 48 [.i a0,.i a1,.i a2] h K=mc48 c a0 a1 a2 h K':=by
 obtain rfl:=fx hX
 exact aS rfl ((c3 hct _ _ _).trans (c6 vm48 c a0 a1 a2 h K'))
theorem pf48(c:aa)(ls:List Lf)(h:HTr)(K:List Lf→HTr→RT):f48 (BA ab ac (ct48 c)) ls h K=wr48 c ls h K:=q_rI (fun n6 l7=>q_rI (fun n8 l9=>q_rI (fun n10 l11=>q_r0 (qm56 rfl (fun l12 h13=>ae (fun n14 l15=>aj (bv (af (rfl) (qm77 rfl (fun l17 h18=>fL (fun t19 l20=>aj (af (rfl) (qm78 rfl (fun l21 h22=>ae (fun n23 l24=>ae (fun n25 l26=>ae (fun n27 l28=>aj (rfl))))))))))))))))))
theorem ok48{c:aa}(hc:Cok c):Ent 48 (w48 c):=aA (aB (f:=fun A=>f48 A) (ct:=ct48) pf48 (congrFun (congrFun e48 RT) HTr) i48 (ak hc (aC (ok56 hc) (aC (ok77 hc) (aC (ok78 hc) aN))))) rfl (by kernel_rfl)
/-- crimp/cells.Check -/
noncomputable def ct79(c:aa):aa:=tblF [] c
noncomputable def b79(c:aa)(a0:Int)(a1:Int)(a2:Int)(h:HTr)(K:Int→HTr→RT):RT:=cB ( cB ( cB ( cB ( cB ( K (.ofNat (nat_lit 0)) h) ( K (.ofNat (nat_lit 1)) h) (notK (leZ a2 (.ofNat (nat_lit 3))))) ( K (.ofNat (nat_lit 1)) h) (notK (leZ a1 (.ofNat (nat_lit 4096))))) ( K (.ofNat (nat_lit 1)) h) (notK (leZ (.negSucc (nat_lit 4095)) a1))) ( K (.ofNat (nat_lit 1)) h) (notK (leZ a0 (.ofNat (nat_lit 4096))))) ( K (.ofNat (nat_lit 1)) h) (notK (leZ (.negSucc (nat_lit 4095)) a0))
noncomputable def wr79(c:aa):FB:=fun ls h K=>rI (fun J O=>rI (fun U V=>rI (fun a0 a1=>r0 (b79 c J U a0 h (fun r0 h=>K [.i r0] h)) a1) V) O) ls
noncomputable def w79(c:aa):FB:=memo (wr79 c)
noncomputable def mc79(c:aa)(J:Int)(O:Int)(U:Int)(h:HTr)(K:Int→HTr→RT):RT:=fI J fun J=>fI O fun O=>fI U fun U=>@Option.rec _ (fun _=>RT) none (fun rs=>u_i K rs h) (b79 c J O U .empty (fun r0 h=>tell [.i r0] h))
theorem vm79:(fun(c:aa) (a0:Int) (a1:Int) (a2:Int) (h:HTr) (K:Int→HTr→RT)=>w79 c [.i a0,.i a1,.i a2] h (u_i K))=fun c a0 a1 a2 h K=>mc79 c a0 a1 a2 h K:=by kernel_rfl
theorem qm79{c call:aa}(hct:call (.f 79)=w79 c){a0:Int}{a1:Int}{a2:Int}{h:HTr}{K:List Lf→HTr→RT}{K':Int→HTr→RT}(hX:∀rs h,K rs h=u_i K' rs h):(BA ab ac call).call 79 [.i a0,.i a1,.i a2] h K=mc79 c a0 a1 a2 h K':=by
 obtain rfl:=fx hX
 exact aS rfl ((c3 hct _ _ _).trans (c6 vm79 c a0 a1 a2 h K'))
theorem pf79(c:aa)(ls:List Lf)(h:HTr)(K:List Lf→HTr→RT):f79 (BA ab ac (ct79 c)) ls h K=wr79 c ls h K:=q_rI (fun n6 l7=>q_rI (fun n8 l9=>q_rI (fun n10 l11=>q_r0 (aK (af (rfl) (bu (af (rfl) (aK (af (rfl) (bu (af (rfl) (bu (af (rfl) (rfl))))))))))))))
theorem ok79{c:aa}(hc:Cok c):Ent 79 (w79 c):=aA (aB (f:=fun A=>f79 A) (ct:=ct79) pf79 (congrFun (congrFun e79 RT) HTr) i79 (ak hc aN)) rfl (by kernel_rfl)
/-- crimp/sheets.Id -/
noncomputable def ct49(c:aa):aa:=tblF [(56,w56 c),(79,w79 c)] c
noncomputable def b49(c:aa)(a0:Int)(a1:Int)(a2:Int)(a3:Int)(a4:Int)(h:HTr)(K:Int→Int→HTr→RT):RT:=mc56 c a0 a1 h (fun r_1 O=>cB ( mc79 c a2 a3 a4 O (fun r_2 J=>cB ( cB ( cB ( cB ( cB ( mulK a3 a0 (fun c_=>al c_ (fun n30=>addK n30 a2 (fun c_=>al c_ (fun n31=>mulK (.ofNat (nat_lit 4)) n31 (fun c_=>al c_ (fun n32=>al a4 (fun n33=>addK n32 n33 (fun c_=>al c_ (fun n34=>K n34 (.ofNat (nat_lit 0)) J)))))))))) ( K (.ofNat (nat_lit 0)) (.ofNat (nat_lit 7)) J) (leZ a1 a3)) ( K (.ofNat (nat_lit 0)) (.ofNat (nat_lit 7)) J) (notK (leZ (.ofNat (nat_lit 0)) a3))) ( K (.ofNat (nat_lit 0)) (.ofNat (nat_lit 7)) J) (leZ a0 a2)) ( K (.ofNat (nat_lit 0)) (.ofNat (nat_lit 7)) J) (notK (leZ (.ofNat (nat_lit 0)) a2))) ( K (.ofNat (nat_lit 0)) (.ofNat (nat_lit 7)) J) (notK (eqZK r_2 (.ofNat (nat_lit 0)))))) ( K (.ofNat (nat_lit 0)) r_1 O) (notK (eqZK r_1 (.ofNat (nat_lit 0)))))
noncomputable def wr49(c:aa):FB:=fun ls h K=>rI (fun J O=>rI (fun U V=>rI (fun a0 a1=>rI (fun a2 a3=>rI (fun a4 a5=>r0 (b49 c J U a0 a2 a4 h (fun r0 a6 h=>K [.i r0,.i a6] h)) a5) a3) a1) V) O) ls
noncomputable def w49(c:aa):FB:=memo (wr49 c)
noncomputable def mc49(c:aa)(J:Int)(O:Int)(U:Int)(V:Int)(a0:Int)(h:HTr)(K:Int→Int→HTr→RT):RT:=fI J fun J=>fI O fun O=>fI U fun U=>fI V fun V=>fI a0 fun a0=>@Option.rec _ (fun _=>RT) none (fun rs=>u_ii K rs h) (b49 c J O U V a0 .empty (fun r0 a1 h=>tell [.i r0,.i a1] h))
theorem vm49:(fun(c:aa) (a0:Int) (a1:Int) (a2:Int) (a3:Int) (a4:Int) (h:HTr) (K:Int→Int→HTr→RT)=>w49 c [.i a0,.i a1,.i a2,.i a3,.i a4] h (u_ii K))=fun c a0 a1 a2 a3 a4 h K=>mc49 c a0 a1 a2 a3 a4 h K:=by kernel_rfl
theorem qm49{c call:aa}(hct:call (.f 49)=w49 c){a0:Int}{a1:Int}{a2:Int}{a3:Int}{a4:Int}{h:HTr}{K:List Lf→HTr→RT}{K':Int→Int→HTr→RT}(hX:∀rs h,K rs h=u_ii K' rs h):(BA ab ac call).call 49 [.i a0,.i a1,.i a2,.i a3,.i a4] h K=mc49 c a0 a1 a2 a3 a4 h K':=by
 obtain rfl:=fx hX
 exact aS rfl ((c3 hct _ _ _).trans (c8 vm49 c a0 a1 a2 a3 a4 h K'))
theorem pf49(c:aa)(ls:List Lf)(h:HTr)(K:List Lf→HTr→RT):f49 (BA ab ac (ct49 c)) ls h K=wr49 c ls h K:=q_rI (fun n6 l7=>q_rI (fun n8 l9=>q_rI (fun n10 l11=>q_rI (fun n12 l13=>q_rI (fun n14 l15=>q_r0 (qm56 rfl (fun l16 h17=>ae (fun n18 l19=>aj (bv (af (rfl) (qm79 rfl (fun l21 h22=>ae (fun n23 l24=>aj (bv (af (rfl) (aK (af (rfl) (ki (af (rfl) (aK (af (rfl) (ki (af (rfl) (aH (fun n30=>aq (fun n31=>aH (fun n32=>cf (fun n33=>aq (fun n34=>rfl)))))))))))))))))))))))))))))
theorem ok49{c:aa}(hc:Cok c):Ent 49 (w49 c):=aA (aB (f:=fun A=>f49 A) (ct:=ct49) pf49 (congrFun (congrFun e49 RT) HTr) i49 (ak hc (aC (ok56 hc) (aC (ok79 hc) aN)))) rfl (by kernel_rfl)
/-- crimp/cells.Neighbour -/
noncomputable def ct67(c:aa):aa:=tblF [(79,w79 c)] c
noncomputable def b67(c:aa)(a0:Int)(a1:Int)(a2:Int)(a3:Int)(h:HTr)(K:Int→Int→Int→Int→HTr→RT):RT:=mc79 c a0 a1 a2 h (fun r_1 J=>cB ( cB ( optB (inB 4 a2) (fun a6=>optB (inB 3 a3) (fun a7=>optB (kK gl2 4 [(a2,17),(a3,3)] 3) (fun U=>ucIB .i64 U (fun n23 V=>ucIB .i64 V (fun n25 a4=>ucIB .u8 a4 (fun n27 a5=>uc0B a5 ( addK n23 a0 (fun c_=>al c_ (fun n29=>addK n25 a1 (fun c_=>al c_ (fun n30=>mc79 c n29 n30 n27 J (fun r_2 O=>cB ( K n29 n30 n27 (.ofNat (nat_lit 0)) O) ( K (.ofNat (nat_lit 0)) (.ofNat (nat_lit 0)) (.ofNat (nat_lit 0)) (.ofNat (nat_lit 3)) O) (notK (eqZK r_2 (.ofNat (nat_lit 0))))))))))))))))) ( K (.ofNat (nat_lit 0)) (.ofNat (nat_lit 0)) (.ofNat (nat_lit 0)) (.ofNat (nat_lit 1)) J) (notK (leZ a3 (.ofNat (nat_lit 2))))) ( K (.ofNat (nat_lit 0)) (.ofNat (nat_lit 0)) (.ofNat (nat_lit 0)) (.ofNat (nat_lit 1)) J) (notK (eqZK r_1 (.ofNat (nat_lit 0)))))
noncomputable def wr67(c:aa):FB:=fun ls h K=>rI (fun J O=>rI (fun U V=>rI (fun a0 a1=>rI (fun a2 a3=>r0 (b67 c J U a0 a2 h (fun r0 a4 a5 a6 h=>K [.i r0,.i a4,.i a5,.i a6] h)) a3) a1) V) O) ls
noncomputable def w67(c:aa):FB:=memo (wr67 c)
noncomputable def mc67(c:aa)(J:Int)(O:Int)(U:Int)(V:Int)(h:HTr)(K:Int→Int→Int→Int→HTr→RT):RT:=fI J fun J=>fI O fun O=>fI U fun U=>fI V fun V=>@Option.rec _ (fun _=>RT) none (fun rs=>dN K rs h) (b67 c J O U V .empty (fun r0 a0 a1 a2 h=>tell [.i r0,.i a0,.i a1,.i a2] h))
theorem vm67:(fun(c:aa) (a0:Int) (a1:Int) (a2:Int) (a3:Int) (h:HTr) (K:Int→Int→Int→Int→HTr→RT)=>w67 c [.i a0,.i a1,.i a2,.i a3] h (dN K))=fun c a0 a1 a2 a3 h K=>mc67 c a0 a1 a2 a3 h K:=by kernel_rfl
theorem qm67{c call:aa}(hct:call (.f 67)=w67 c){a0:Int}{a1:Int}{a2:Int}{a3:Int}{h:HTr}{K:List Lf→HTr→RT}{K':Int→Int→Int→Int→HTr→RT}(hX:∀rs h,K rs h=dN K' rs h):(BA ab ac call).call 67 [.i a0,.i a1,.i a2,.i a3] h K=mc67 c a0 a1 a2 a3 h K':=by
 obtain rfl:=fx hX
 exact aS rfl ((c3 hct _ _ _).trans (c7 vm67 c a0 a1 a2 a3 h K'))
theorem pf67(c:aa)(ls:List Lf)(h:HTr)(K:List Lf→HTr→RT):f67 (BA ab ac (ct67 c)) ls h K=wr67 c ls h K:=q_rI (fun n6 l7=>q_rI (fun n8 l9=>q_rI (fun n10 l11=>q_rI (fun n12 l13=>q_r0 (qm79 rfl (fun l14 h15=>ae (fun n16 l17=>aj (bv (af (rfl) (bu (af (rfl) (ai (fun x20=>ai (fun x21=>ai (fun x22=>ah (fun n23 l24=>ah (fun n25 l26=>ah (fun n27 l28=>aw (aq (fun n29=>aq (fun n30=>qm79 rfl (fun l31 h32=>ae (fun n33 l34=>aj (bv (af (rfl) (rfl))))))))))))))))))))))))))
theorem ok67{c:aa}(hc:Cok c):Ent 67 (w67 c):=aA (aB (f:=fun A=>f67 A) (ct:=ct67) pf67 (congrFun (congrFun e67 RT) HTr) i67 (ak hc (aC (ok79 hc) aN))) rfl (by kernel_rfl)
/-- crimp/sheets.Neighbour -/
noncomputable def ct80(c:aa):aa:=tblF [(48,w48 c),(49,w49 c),(67,w67 c)] c
noncomputable def b80(c:aa)(a0:Int)(a1:Int)(a2:Int)(a3:Int)(h:HTr)(K:Int→Int→HTr→RT):RT:=mc48 c a0 a1 a2 h (fun r_1 r_2 r_3 r_4 J=>cB ( mc67 c r_1 r_2 r_3 a3 J (fun r_5 r_6 r_7 r_8 O=>cB ( mc49 c a0 a1 r_5 r_6 r_7 O (fun r_9 r_10 U=>K r_9 r_10 U)) ( K (.ofNat (nat_lit 0)) (.ofNat (nat_lit 1)) O) (notK (eqZK r_8 (.ofNat (nat_lit 0)))))) ( K (.ofNat (nat_lit 0)) r_4 J) (notK (eqZK r_4 (.ofNat (nat_lit 0)))))
noncomputable def wr80(c:aa):FB:=fun ls h K=>rI (fun J O=>rI (fun U V=>rI (fun a0 a1=>rI (fun a2 a3=>r0 (b80 c J U a0 a2 h (fun r0 a4 h=>K [.i r0,.i a4] h)) a3) a1) V) O) ls
noncomputable def w80(c:aa):FB:=memo (wr80 c)
noncomputable def mc80(c:aa)(J:Int)(O:Int)(U:Int)(V:Int)(h:HTr)(K:Int→Int→HTr→RT):RT:=fI J fun J=>fI O fun O=>fI U fun U=>fI V fun V=>@Option.rec _ (fun _=>RT) none (fun rs=>u_ii K rs h) (b80 c J O U V .empty (fun r0 a0 h=>tell [.i r0,.i a0] h))
theorem vm80:(fun(c:aa) (a0:Int) (a1:Int) (a2:Int) (a3:Int) (h:HTr) (K:Int→Int→HTr→RT)=>w80 c [.i a0,.i a1,.i a2,.i a3] h (u_ii K))=fun c a0 a1 a2 a3 h K=>mc80 c a0 a1 a2 a3 h K:=by kernel_rfl
theorem qm80{c call:aa}(hct:call (.f 80)=w80 c){a0:Int}{a1:Int}{a2:Int}{a3:Int}{h:HTr}{K:List Lf→HTr→RT}{K':Int→Int→HTr→RT}(hX:∀rs h,K rs h=u_ii K' rs h):(BA ab ac call).call 80 [.i a0,.i a1,.i a2,.i a3] h K=mc80 c a0 a1 a2 a3 h K':=by
 obtain rfl:=fx hX
 exact aS rfl ((c3 hct _ _ _).trans (c7 vm80 c a0 a1 a2 a3 h K'))
theorem pf80(c:aa)(ls:List Lf)(h:HTr)(K:List Lf→HTr→RT):f80 (BA ab ac (ct80 c)) ls h K=wr80 c ls h K:=q_rI (fun n6 l7=>q_rI (fun n8 l9=>q_rI (fun n10 l11=>q_rI (fun n12 l13=>q_r0 (qm48 rfl (fun l14 h15=>ae (fun n16 l17=>ae (fun n18 l19=>ae (fun n20 l21=>ae (fun n22 l23=>aj (bv (af (rfl) (qm67 rfl (fun l25 h26=>ae (fun n27 l28=>ae (fun n29 l30=>ae (fun n31 l32=>ae (fun n33 l34=>aj (bv (af (rfl) (qm49 rfl (fun l36 h37=>ae (fun n38 l39=>ae (fun n40 l41=>aj (rfl)))))))))))))))))))))))))
theorem ok80{c:aa}(hc:Cok c):Ent 80 (w80 c):=aA (aB (f:=fun A=>f80 A) (ct:=ct80) pf80 (congrFun (congrFun e80 RT) HTr) i80 (ak hc (aC (ok48 hc) (aC (ok49 hc) (aC (ok67 hc) aN))))) rfl (by kernel_rfl)
/-- crimp/sheets.Name -/
noncomputable def ct50(c:aa):aa:=tblF [(80,w80 c)] c
noncomputable def b50(c:aa)(a0:Int)(a1:Int)(a2:Int)(a3:Int)(h:HTr)(K:Int→Int→Int→HTr→RT):RT:=mc80 c a0 a1 a2 a3 h (fun r_1 r_2 J=>cB ( selB (notK (leZ a2 r_1)) r_1 a2 (fun n22=>K n22 a3 (.ofNat (nat_lit 0)) J)) ( K (.ofNat (nat_lit 0)) (.ofNat (nat_lit 0)) r_2 J) (notK (eqZK r_2 (.ofNat (nat_lit 0)))))
noncomputable def wr50(c:aa):FB:=fun ls h K=>rI (fun J O=>rI (fun U V=>rI (fun a0 a1=>rI (fun a2 a3=>r0 (b50 c J U a0 a2 h (fun r0 a4 a5 h=>K [.i r0,.i a4,.i a5] h)) a3) a1) V) O) ls
noncomputable def w50(c:aa):FB:=memo (wr50 c)
noncomputable def mc50(c:aa)(J:Int)(O:Int)(U:Int)(V:Int)(h:HTr)(K:Int→Int→Int→HTr→RT):RT:=fI J fun J=>fI O fun O=>fI U fun U=>fI V fun V=>@Option.rec _ (fun _=>RT) none (fun rs=>eP K rs h) (b50 c J O U V .empty (fun r0 a0 a1 h=>tell [.i r0,.i a0,.i a1] h))
theorem vm50:(fun(c:aa) (a0:Int) (a1:Int) (a2:Int) (a3:Int) (h:HTr) (K:Int→Int→Int→HTr→RT)=>w50 c [.i a0,.i a1,.i a2,.i a3] h (eP K))=fun c a0 a1 a2 a3 h K=>mc50 c a0 a1 a2 a3 h K:=by kernel_rfl
theorem qm50{c call:aa}(hct:call (.f 50)=w50 c){a0:Int}{a1:Int}{a2:Int}{a3:Int}{h:HTr}{K:List Lf→HTr→RT}{K':Int→Int→Int→HTr→RT}(hX:∀rs h,K rs h=eP K' rs h):(BA ab ac call).call 50 [.i a0,.i a1,.i a2,.i a3] h K=mc50 c a0 a1 a2 a3 h K':=by
 obtain rfl:=fx hX
 exact aS rfl ((c3 hct _ _ _).trans (c7 vm50 c a0 a1 a2 a3 h K'))
theorem pf50(c:aa)(ls:List Lf)(h:HTr)(K:List Lf→HTr→RT):f50 (BA ab ac (ct50 c)) ls h K=wr50 c ls h K:=q_rI (fun n6 l7=>q_rI (fun n8 l9=>q_rI (fun n10 l11=>q_rI (fun n12 l13=>q_r0 (qm80 rfl (fun l14 h15=>ae (fun n16 l17=>ae (fun n18 l19=>aj (bv (af (rfl) (aK (q_sel (fun n22=>rfl)))))))))))))
theorem ok50{c:aa}(hc:Cok c):Ent 50 (w50 c):=aA (aB (f:=fun A=>f50 A) (ct:=ct50) pf50 (congrFun (congrFun e50 RT) HTr) i50 (ak hc (aC (ok80 hc) aN))) rfl (by kernel_rfl)
/-- crimp/patterns.order -/
noncomputable def ct53(c:aa):aa:=tblF [] c
noncomputable def b53(c:aa)(a0:Int)(a1:Int)(a2:Int)(a3:Int)(h:HTr)(K:Int→HTr→RT):RT:=cB ( al a1 (fun n16=>al a3 (fun n17=>subK n16 n17 (fun c_=>al c_ (fun n18=>K n18 h))))) ( subK a0 a2 (fun c_=>al c_ (fun n15=>K n15 h))) (notK (eqZK a0 a2))
noncomputable def wr53(c:aa):FB:=fun ls h K=>rI (fun J O=>rI (fun U V=>rI (fun a0 a1=>rI (fun a2 a3=>r0 (b53 c J U a0 a2 h (fun r0 h=>K [.i r0] h)) a3) a1) V) O) ls
noncomputable def w53(c:aa):FB:=memo (wr53 c)
noncomputable def mc53(c:aa)(J:Int)(O:Int)(U:Int)(V:Int)(h:HTr)(K:Int→HTr→RT):RT:=fI J fun J=>fI O fun O=>fI U fun U=>fI V fun V=>@Option.rec _ (fun _=>RT) none (fun rs=>u_i K rs h) (b53 c J O U V .empty (fun r0 h=>tell [.i r0] h))
theorem vm53:(fun(c:aa) (a0:Int) (a1:Int) (a2:Int) (a3:Int) (h:HTr) (K:Int→HTr→RT)=>w53 c [.i a0,.i a1,.i a2,.i a3] h (u_i K))=fun c a0 a1 a2 a3 h K=>mc53 c a0 a1 a2 a3 h K:=by kernel_rfl
theorem qm53{c call:aa}(hct:call (.f 53)=w53 c){a0:Int}{a1:Int}{a2:Int}{a3:Int}{h:HTr}{K:List Lf→HTr→RT}{K':Int→HTr→RT}(hX:∀rs h,K rs h=u_i K' rs h):(BA ab ac call).call 53 [.i a0,.i a1,.i a2,.i a3] h K=mc53 c a0 a1 a2 a3 h K':=by
 obtain rfl:=fx hX
 exact aS rfl ((c3 hct _ _ _).trans (c7 vm53 c a0 a1 a2 a3 h K'))
theorem pf53(c:aa)(ls:List Lf)(h:HTr)(K:List Lf→HTr→RT):f53 (BA ab ac (ct53 c)) ls h K=wr53 c ls h K:=q_rI (fun n6 l7=>q_rI (fun n8 l9=>q_rI (fun n10 l11=>q_rI (fun n12 l13=>q_r0 (bv (af (aP (fun n15=>rfl)) (cf (fun n16=>cf (fun n17=>aP (fun n18=>rfl))))))))))
theorem ok53{c:aa}(hc:Cok c):Ent 53 (w53 c):=aA (aB (f:=fun A=>f53 A) (ct:=ct53) pf53 (congrFun (congrFun e53 RT) HTr) i53 (ak hc aN)) rfl (by kernel_rfl)
/-- (crimp/patterns.Crease).unit -/
noncomputable def ct54(c:aa):aa:=tblF [] c
noncomputable def b54(c:aa)(a0:Int)(a1:Int)(a2:Int)(h:HTr)(K:Int→Int→HTr→RT):RT:=K a0 a1 h
noncomputable def wr54(c:aa):FB:=fun ls h K=>rI (fun J O=>rI (fun U V=>rI (fun a0 a1=>r0 (b54 c J U a0 h (fun r0 a2 h=>K [.i r0,.i a2] h)) a1) V) O) ls
noncomputable def w54(c:aa):FB:=memo (wr54 c)
noncomputable def mc54(c:aa)(J:Int)(O:Int)(U:Int)(h:HTr)(K:Int→Int→HTr→RT):RT:=fI J fun J=>fI O fun O=>fI U fun U=>@Option.rec _ (fun _=>RT) none (fun rs=>u_ii K rs h) (b54 c J O U .empty (fun r0 V h=>tell [.i r0,.i V] h))
theorem vm54:(fun(c:aa) (a0:Int) (a1:Int) (a2:Int) (h:HTr) (K:Int→Int→HTr→RT)=>w54 c [.i a0,.i a1,.i a2] h (u_ii K))=fun c a0 a1 a2 h K=>mc54 c a0 a1 a2 h K:=by kernel_rfl
theorem qm54{c call:aa}(hct:call (.f 54)=w54 c){a0:Int}{a1:Int}{a2:Int}{h:HTr}{K:List Lf→HTr→RT}{K':Int→Int→HTr→RT}(hX:∀rs h,K rs h=u_ii K' rs h):(BA ab ac call).call 54 [.i a0,.i a1,.i a2] h K=mc54 c a0 a1 a2 h K':=by
 obtain rfl:=fx hX
 exact aS rfl ((c3 hct _ _ _).trans (c6 vm54 c a0 a1 a2 h K'))
theorem pf54(c:aa)(ls:List Lf)(h:HTr)(K:List Lf→HTr→RT):f54 (BA ab ac (ct54 c)) ls h K=wr54 c ls h K:=q_rI (fun n6 l7=>q_rI (fun n8 l9=>q_rI (fun n10 l11=>q_r0 (rfl))))
theorem ok54{c:aa}(hc:Cok c):Ent 54 (w54 c):=aA (aB (f:=fun A=>f54 A) (ct:=ct54) pf54 (congrFun (congrFun e54 RT) HTr) i54 (ak hc aN)) rfl (by kernel_rfl)
/-- slices.IndexFunc[[]crimp/patterns.Crease,crimp/patterns.Crease] -/
noncomputable def ct91(c:aa):aa:=tblF [] c
noncomputable def b91(c:aa)(a0:Value)(a1:Value)(h:HTr)(K:Int→HTr→RT):RT:=optB (lenS a0) (fun U=>bk (fun V a2 J=>unIB a2 (fun n14 a3=>un0B a3 (cB ( K (.negSucc (nat_lit 0)) J) ( optB (idS 3 a0 n14) (fun a4=>lgB cc 3 a4 J (fun a5=>ucIB .i64 a5 (fun n19 a6=>ucIB .u8 a6 (fun n21 a7=>ucIB .u8 a7 (fun n23 a8=>uc0B a8 ( db ab ac (ct91 c) a1 [(.agg ⟨[(.int .i64 n19),(.int .u8 n21),(.int .u8 n23)]⟩)] [(.leaf .b)] J (fun a9 O=>unBB a9 (fun b0 b1=>un0B b1 (cB ( addK n14 (.ofNat (nat_lit 1)) (fun c_=>al c_ (fun n29=>V [.i n29] O))) ( K n14 O) b0)))))))))) (notK (leZ U n14))))) [.i (.ofNat (nat_lit 0))] h)
noncomputable def wr91(c:aa):FB:=fun ls h K=>rV (fun J O=>rV (fun U V=>r0 (b91 c J U h (fun r0 h=>K [.i r0] h)) V) O) ls
noncomputable def w91(c:aa):FB:=wr91 c
theorem vb91:(fun(c:aa) (a0:Value) (a1:Value) (h:HTr) (K:List Lf→HTr→RT)=>w91 c [.v a0,.v a1] h K)=fun c a0 a1 h K=>b91 c a0 a1 h (fun r0 h=>K [.i r0] h):=by kernel_rfl
theorem qb91{c call:aa}(hct:call (.f 91)=w91 c){a0:Value}{a1:Value}{h:HTr}{K:List Lf→HTr→RT}{K':Int→HTr→RT}(hX:∀r0 h,K [.i r0] h=K' r0 h):(BA ab ac call).call 91 [.v a0,.v a1] h K=bD [.v a0,.v a1] (b91 c a0 a1 h K'):=by
 obtain rfl:K'=fun r0 h=>K [.i r0] h:=funext fun r0=>funext fun h=>(hX r0 h).symm
 exact fm rfl ((c3 hct _ _ _).trans (c5 vb91 c a0 a1 h K))
theorem pf91(c:aa)(ls:List Lf)(h:HTr)(K:List Lf→HTr→RT):f91 (BA ab ac (ct91 c)) ls h K=wr91 c ls h K:=q_rV (fun x6 l7=>q_rV (fun x8 l9=>q_r0 (ai (fun x10=>aQ (fun s11 l12 h13=>ae (fun n14 l15=>aj (aK (af (ai (fun x17=>q_lg (fun l18=>ah (fun n19 l20=>ah (fun n21 l22=>ah (fun n23 l24=>aw (cW (fun l25 h26=>fL (fun t27 l28=>aj (af (rfl) (aq (fun n29=>rfl)))))))))))) (rfl)))))))))
theorem ok91{c:aa}(hc:Cok c):Ent 91 (w91 c):=aB (f:=fun A=>f91 A) (ct:=ct91) pf91 (congrFun (congrFun e91 RT) HTr) i91 (ak hc aN)
/-- slices.ContainsFunc[[]crimp/patterns.Crease,crimp/patterns.Crease] -/
noncomputable def ct68(c:aa):aa:=tblF [(91,w91 c)] c
noncomputable def b68(c:aa)(a0:Value)(a1:Value)(h:HTr)(K:Bool→HTr→RT):RT:=bD [.v a0,.v a1] (b91 c a0 a1 h (fun r_1 J=>K (leZ (.ofNat (nat_lit 0)) r_1) J))
noncomputable def wr68(c:aa):FB:=fun ls h K=>rV (fun J O=>rV (fun U V=>r0 (b68 c J U h (fun r0 h=>K [.b r0] h)) V) O) ls
noncomputable def w68(c:aa):FB:=wr68 c
theorem vb68:(fun(c:aa) (a0:Value) (a1:Value) (h:HTr) (K:List Lf→HTr→RT)=>w68 c [.v a0,.v a1] h K)=fun c a0 a1 h K=>b68 c a0 a1 h (fun r0 h=>K [.b r0] h):=by kernel_rfl
theorem qb68{c call:aa}(hct:call (.f 68)=w68 c){a0:Value}{a1:Value}{h:HTr}{K:List Lf→HTr→RT}{K':Bool→HTr→RT}(hX:∀r0 h,K [.b r0] h=K' r0 h):(BA ab ac call).call 68 [.v a0,.v a1] h K=bD [.v a0,.v a1] (b68 c a0 a1 h K'):=by
 obtain rfl:K'=fun r0 h=>K [.b r0] h:=funext fun r0=>funext fun h=>(hX r0 h).symm
 exact fm rfl ((c3 hct _ _ _).trans (c5 vb68 c a0 a1 h K))
theorem pf68(c:aa)(ls:List Lf)(h:HTr)(K:List Lf→HTr→RT):f68 (BA ab ac (ct68 c)) ls h K=wr68 c ls h K:=q_rV (fun x6 l7=>q_rV (fun x8 l9=>q_r0 (qb91 rfl (fun r_1 h11=>cj (bP (ki (rfl)))))))
theorem ok68{c:aa}(hc:Cok c):Ent 68 (w68 c):=aB (f:=fun A=>f68 A) (ct:=ct68) pf68 (congrFun (congrFun e68 RT) HTr) i68 (ak hc (aC (ok91 hc) aN))
/-- crimp/patterns.Check -/
noncomputable def ct36(c:aa):aa:=tblF [(50,w50 c),(53,w53 c),(54,w54 c),(56,w56 c),(68,w68 c)] c
noncomputable def b36(c:aa)(a0:Int)(a1:Int)(a2:Value)(h:HTr)(K:Int→HTr→RT):RT:=mc56 c a0 a1 h (fun r_1 U=>cB ( bD [.v a2,.v (.func (.func 69) ⟨[]⟩ ⟨[]⟩)] (b68 c a2 (.func (.func 69) ⟨[]⟩ ⟨[]⟩) U (fun r_2 V=>cB ( optB (lenS a2) (fun a7=>bk (fun a8 a9 J=>unIB a9 (fun n25 b0=>un0B b0 (cB ( bk (fun b1 b2 O=>unIB b2 (fun n56 b3=>un0B b3 (optB (lenS a2) (fun b4=>cB ( K (.ofNat (nat_lit 0)) O) ( subK n56 (.ofNat (nat_lit 1)) (fun c_=>al c_ (fun n60=>optB (idS 3 a2 n60) (fun b6=>lgB cc 3 b6 O (fun b7=>ucIB .i64 b7 (fun n63 b8=>ucIB .u8 b8 (fun n65 b9=>ucIB .u8 b9 (fun n67 c0=>uc0B c0 ( mc54 c n63 n65 n67 O (fun r_8 r_9 a3=>optB (idS 3 a2 n56) (fun c1=>lgB cc 3 c1 a3 (fun d0=>ucIB .i64 d0 (fun n77 d1=>ucIB .u8 d1 (fun n79 d2=>ucIB .u8 d2 (fun n81 d3=>uc0B d3 ( mc54 c n77 n79 n81 a3 (fun r_10 r_11 d4=>mc53 c r_8 r_9 r_10 r_11 d4 (fun r_12 a4=>cB ( addK n56 (.ofNat (nat_lit 1)) (fun c_=>al c_ (fun d5=>b1 [.i d5] a4))) ( K (.ofNat (nat_lit 6)) a4) (leZ (.ofNat (nat_lit 0)) r_12))))))))))))))))))) (notK (leZ b4 n56)))))) [.i (.ofNat (nat_lit 1))] J) ( optB (idS 3 a2 n25) (fun d6=>lgB cc 3 d6 J (fun d7=>ucIB .i64 d7 (fun n30 d8=>ucIB .u8 d8 (fun n32 d9=>ucIB .u8 d9 (fun n34 e0=>uc0B e0 ( mc50 c a0 a1 n30 n32 J (fun r_3 r_4 r_5 a5=>cB ( mc54 c n30 n32 n34 a5 (fun r_6 r_7 a6=>cB ( addK n25 (.ofNat (nat_lit 1)) (fun c_=>al c_ (fun n52=>a8 [.i n52] a6))) ( K (.ofNat (nat_lit 7)) a6) (!(@Bool.rec (fun _=>Bool) false (@Bool.rec (fun _=>Bool) false true (eqZK r_4 r_7)) (eqZK r_3 r_6))))) ( K (.ofNat (nat_lit 7)) a5) (notK (eqZK r_5 (.ofNat (nat_lit 0)))))))))))) (notK (leZ a7 n25))))) [.i (.ofNat (nat_lit 0))] V)) ( K (.ofNat (nat_lit 1)) V) r_2))) ( K r_1 U) (notK (eqZK r_1 (.ofNat (nat_lit 0)))))
noncomputable def wr36(c:aa):FB:=fun ls h K=>rI (fun J O=>rI (fun U V=>rV (fun a0 a1=>r0 (b36 c J U a0 h (fun r0 h=>K [.i r0] h)) a1) V) O) ls
noncomputable def w36(c:aa):FB:=pz (wr36 c)
noncomputable def mr36(c:aa)(a0:Int)(a1:Int)(a2:Value)(h:HTr)(K:List Lf→HTr→RT):RT:=pz (wr36 c) [.i a0,.i a1,.v a2] h K
theorem qr36{c call:aa}(hct:call (.f 36)=w36 c){a0:Int}{a1:Int}{a2:Value}{h:HTr}{K K':List Lf→HTr→RT}(hX:∀rs h,K rs h=K' rs h):(BA ab ac call).call 36 [.i a0,.i a1,.v a2] h K=bD [.v a2] (mr36 c a0 a1 a2 h K'):=by
 obtain rfl:=fx hX
 exact fm rfl (c3 hct _ _ _)
theorem pf36(c:aa)(ls:List Lf)(h:HTr)(K:List Lf→HTr→RT):f36 (BA ab ac (ct36 c)) ls h K=wr36 c ls h K:=q_rI (fun n6 l7=>q_rI (fun n8 l9=>q_rV (fun x10 l11=>q_r0 (qm56 rfl (fun l12 h13=>ae (fun n14 l15=>aj (bv (af (rfl) (qb68 rfl (fun r_2 h18=>qK (bP (af (rfl) (ai (fun x21=>aQ (fun s22 l23 h24=>ae (fun n25 l26=>aj (aK (af (ai (fun x28=>q_lg (fun l29=>ah (fun n30 l31=>ah (fun n32 l33=>ah (fun n34 l35=>aw (qm50 rfl (fun l36 h37=>ae (fun n38 l39=>ae (fun n40 l41=>ae (fun n42 l43=>aj (bv (af (rfl) (qm54 rfl (fun l45 h46=>ae (fun n47 l48=>ae (fun n49 l50=>aj (eO (af (rfl) (aq (fun n52=>rfl))))))))))))))))))))) (aQ (fun s53 l54 h55=>ae (fun n56 l57=>aj (ai (fun x58=>aK (af (aP (fun n60=>ai (fun x61=>q_lg (fun l62=>ah (fun n63 l64=>ah (fun n65 l66=>ah (fun n67 l68=>aw (qm54 rfl (fun l69 h70=>ae (fun n71 l72=>ae (fun n73 l74=>aj (ai (fun x75=>q_lg (fun l76=>ah (fun n77 l78=>ah (fun n79 l80=>ah (fun n81 l82=>aw (qm54 rfl (fun l83 h84=>ae (fun n85 l86=>ae (fun n87 l88=>aj (qm53 rfl (fun l89 h90=>ae (fun n91 l92=>aj (ki (af (rfl) (aq (fun n94=>rfl)))))))))))))))))))))))))))) (rfl)))))))))))))))))))))))))
theorem ok36{c:aa}(hc:Cok c):Ent 36 (w36 c):=ent_ro (aB (f:=fun A=>f36 A) (ct:=ct36) pf36 (congrFun (congrFun e36 RT) HTr) i36 (ak hc (aC (ok50 hc) (aC (ok53 hc) (aC (ok54 hc) (aC (ok56 hc) (aC (ok68 hc) aN))))))) rfl (by kernel_rfl) (by kernel_rfl)
/-- slices.insertionSortCmpFunc[crimp/corners.Ray] -/
noncomputable def ct93(c:aa):aa:=tblF [] c
noncomputable def b93(c:aa)(a0:Value)(a1:Int)(a2:Int)(a3:Value)(h:HTr)(K:HTr→RT):RT:=addK a1 (.ofNat (nat_lit 1)) (fun c_=>al c_ (fun n14=>bk (fun a4 a5 U=>unIB a5 (fun n18 a6=>un0B a6 (cB ( K U) ( bh (fun a7 a8=>un0B a7 (addK n18 (.ofNat (nat_lit 1)) (fun c_=>al c_ (fun n23=>a4 [.i n23] a8)))) (fun V=>bk (fun a9 b0 J=>unIB b0 (fun n28 b1=>un0B b1 (cB ( V [] J) ( optB (idS 2 a0 n28) (fun b2=>lgB cc 2 b2 J (fun b3=>ucIB .i64 b3 (fun n33 b4=>ucIB .u8 b4 (fun n35 b6=>uc0B b6 ( subK n28 (.ofNat (nat_lit 1)) (fun c_=>al c_ (fun n37=>optB (idS 2 a0 n37) (fun b7=>lgB cc 2 b7 J (fun b8=>ucIB .i64 b8 (fun n40 b9=>ucIB .u8 b9 (fun n42 c0=>uc0B c0 ( db ab ac (ct93 c) a3 [(.agg ⟨[(.int .i64 n33),(.int .u8 n35)]⟩),(.agg ⟨[(.int .i64 n40),(.int .u8 n42)]⟩)] [(.leaf (.i .i64))] J (fun c1 O=>unIB c1 (fun n46 d0=>un0B d0 (cB ( V [] O) ( subK n28 (.ofNat (nat_lit 1)) (fun c_=>al c_ (fun n49=>subK n28 (.ofNat (nat_lit 1)) (fun c_=>al c_ (fun n50=>optB (idS 2 a0 n50) (fun d1=>lgB cc 2 d1 O (fun d2=>ucIB .i64 d2 (fun n53 d3=>ucIB .u8 d3 (fun n55 d4=>uc0B d4 ( optB (idS 2 a0 n28) (fun d5=>lgB cc 2 d5 O (fun d6=>ucIB .i64 d6 (fun n59 d7=>ucIB .u8 d7 (fun n61 d8=>uc0B d8 ( optB (idS 2 a0 n28) (fun d9=>stB d9 [(.int .i64 n53),(.int .u8 n55)] O (fun f0 e0=>optB (idS 2 a0 n49) (fun e1=>stB e1 [(.int .i64 n59),(.int .u8 n61)] e0 (fun f1 e2=>subK n28 (.ofNat (nat_lit 1)) (fun c_=>al c_ (fun n69=>a9 [.i n69] e2))))))))))))))))))))) (notK (leZ (.ofNat (nat_lit 0)) n46)))))))))))))))))) (notK (leZ n28 a1))))) [.i n18] U)) (notK (leZ a2 n18))))) [.i n14] h))
noncomputable def wr93(c:aa):FB:=fun ls h K=>rV (fun J O=>rI (fun U V=>rI (fun a0 a1=>rV (fun a2 a3=>r0 (b93 c J U a0 a2 h (fun h=>K [] h)) a3) a1) V) O) ls
noncomputable def w93(c:aa):FB:=wr93 c
theorem pf93(c:aa)(ls:List Lf)(h:HTr)(K:List Lf→HTr→RT):f93 (BA ab ac (ct93 c)) ls h K=wr93 c ls h K:=q_rV (fun x6 l7=>q_rI (fun n8 l9=>q_rI (fun n10 l11=>q_rV (fun x12 l13=>q_r0 (aq (fun n14=>aQ (fun s15 l16 h17=>ae (fun n18 l19=>aj (aK (af (aO (fun l21 h22=>aj (aq (fun n23=>rfl))) (fun j24=>aQ (fun s25 l26 h27=>ae (fun n28 l29=>aj (bu (af (ai (fun x31=>q_lg (fun l32=>ah (fun n33 l34=>ah (fun n35 l36=>aw (aP (fun n37=>ai (fun x38=>q_lg (fun l39=>ah (fun n40 l41=>ah (fun n42 l43=>aw (cW (fun l44 h45=>ae (fun n46 l47=>aj (aK (af (aP (fun n49=>aP (fun n50=>ai (fun x51=>q_lg (fun l52=>ah (fun n53 l54=>ah (fun n55 l56=>aw (ai (fun x57=>q_lg (fun l58=>ah (fun n59 l60=>ah (fun n61 l62=>aw (ai (fun x63=>q_st (fun l64 h65=>ai (fun x66=>q_st (fun l67 h68=>aP (fun n69=>rfl)))))))))))))))))) (rfl))))))))))))))))) (rfl))))))) (rfl)))))))))))
theorem ok93{c:aa}(hc:Cok c):Ent 93 (w93 c):=aB (f:=fun A=>f93 A) (ct:=ct93) pf93 (congrFun (congrFun e93 RT) HTr) i93 (ak hc aN)
/-- slices.pdqsortCmpFunc[crimp/corners.Ray] -/
noncomputable def ct72(c:aa):aa:=tblF [(93,w93 c)] c
noncomputable def wr72(c:aa):FB:=f72 (BA ab ac (ct72 c))
noncomputable def w72(c:aa):FB:=wr72 c
theorem ok72{c:aa}(hc:Cok c):Ent 72 (w72 c):=aB (f:=fun A=>f72 A) (ct:=ct72) (fun _ _ _ _=>rfl) (congrFun (congrFun e72 RT) HTr) i72 (ak hc (aC (ok93 hc) aN))
/-- math/bits.Len64 -/
noncomputable def ct102(c:aa):aa:=tblF [] c
noncomputable def wr102(c:aa):FB:=f102 (BA ab ac (ct102 c))
noncomputable def w102(c:aa):FB:=memo (wr102 c)
theorem ok102{c:aa}(hc:Cok c):Ent 102 (w102 c):=aA (aB (f:=fun A=>f102 A) (ct:=ct102) (fun _ _ _ _=>rfl) (congrFun (congrFun e102 RT) HTr) i102 (ak hc aN)) rfl (by kernel_rfl)
/-- math/bits.Len -/
noncomputable def ct73(c:aa):aa:=tblF [(102,w102 c)] c
noncomputable def b73(c:aa)(a0:Int)(h:HTr)(K:Int→HTr→RT):RT:=iP (ct73 c) 102 [.i a0] h (fun J O=>unIB J (fun n10 U=>un0B U (K n10 O)))
noncomputable def wr73(c:aa):FB:=fun ls h K=>rI (fun J O=>r0 (b73 c J h (fun r0 h=>K [.i r0] h)) O) ls
noncomputable def w73(c:aa):FB:=memo (wr73 c)
theorem pf73(c:aa)(ls:List Lf)(h:HTr)(K:List Lf→HTr→RT):f73 (BA ab ac (ct73 c)) ls h K=wr73 c ls h K:=q_rI (fun n6 l7=>q_r0 (pJ (fun l8 h9=>ae (fun n10 l11=>aj (rfl)))))
theorem ok73{c:aa}(hc:Cok c):Ent 73 (w73 c):=aA (aB (f:=fun A=>f73 A) (ct:=ct73) pf73 (congrFun (congrFun e73 RT) HTr) i73 (ak hc (aC (ok102 hc) aN))) rfl (by kernel_rfl)
/-- slices.SortFunc[[]crimp/corners.Ray,crimp/corners.Ray] -/
noncomputable def ct38(c:aa):aa:=tblF [(72,w72 c),(73,w73 c)] c
noncomputable def wr38(c:aa):FB:=f38 (BA ab ac (ct38 c))
noncomputable def w38(c:aa):FB:=wr38 c
theorem ok38{c:aa}(hc:Cok c):Ent 38 (w38 c):=aB (f:=fun A=>f38 A) (ct:=ct38) (fun _ _ _ _=>rfl) (congrFun (congrFun e38 RT) HTr) i38 (ak hc (aC (ok72 hc) (aC (ok73 hc) aN)))
/-- slices.Clip[[]crimp/corners.Ray,crimp/corners.Ray] -/
noncomputable def ct40(c:aa):aa:=tblF [] c
noncomputable def b40(c:aa)(a0:Value)(h:HTr)(K:Value→HTr→RT):RT:=optB (lenS a0) (fun O=>optB (lenS a0) (fun U=>optB (slS 2 a0 none (some O) (some U)) (fun J=>chkB J ( K J h))))
noncomputable def wr40(c:aa):FB:=fun ls h K=>rV (fun J O=>r0 (b40 c J h (fun r0 h=>K [.v r0] h)) O) ls
noncomputable def w40(c:aa):FB:=wr40 c
theorem vb40:(fun(c:aa) (a0:Value) (h:HTr) (K:List Lf→HTr→RT)=>w40 c [.v a0] h K)=fun c a0 h K=>b40 c a0 h (fun r0 h=>K [.v r0] h):=by kernel_rfl
theorem qb40{c call:aa}(hct:call (.f 40)=w40 c){a0:Value}{h:HTr}{K:List Lf→HTr→RT}{K':Value→HTr→RT}(hX:∀r0 h,K [.v r0] h=K' r0 h):(BA ab ac call).call 40 [.v a0] h K=bD [.v a0] (b40 c a0 h K'):=by
 obtain rfl:K'=fun r0 h=>K [.v r0] h:=funext fun r0=>funext fun h=>(hX r0 h).symm
 exact fm rfl ((c3 hct _ _ _).trans (c4 vb40 c a0 h K))
theorem pf40(c:aa)(ls:List Lf)(h:HTr)(K:List Lf→HTr→RT):f40 (BA ab ac (ct40 c)) ls h K=wr40 c ls h K:=q_rV (fun x6 l7=>q_r0 (ai (fun x8=>ai (fun x9=>ai (fun x10=>aV (rfl))))))
theorem ok40{c:aa}(hc:Cok c):Ent 40 (w40 c):=aB (f:=fun A=>f40 A) (ct:=ct40) pf40 (congrFun (congrFun e40 RT) HTr) i40 (ak hc aN)
/-- crimp/corners.Creases -/
noncomputable def ct16(c:aa):aa:=tblF [(33,w33 c),(34,w34 c),(36,w36 c),(38,w38 c),(40,w40 c)] c
noncomputable def b16(c:aa)(a0:Int)(a1:Int)(a2:Value)(a3:Int)(a4:Int)(h:HTr)(K:Value→Int→HTr→RT):RT:=newB (.cells [(.int .i64 a0),(.int .i64 a1),a2] 3 true) h (fun J a7=>lgB cc 3 (.pointer (some ⟨J,0,none⟩)) a7 (fun b4=>ucIB .i64 b4 (fun n19 b6=>ucIB .i64 b6 (fun n21 b7=>ucVB b7 (fun O b8=>chkB O ( uc0B b8 ( bD [.v O] (mr36 c n19 n21 O a7 (fun b9 U=>unIB b9 (fun n27 c0=>un0B c0 (cB ( optB (fdP 0 (.pointer (some ⟨J,0,none⟩))) (fun a8=>chkB a8 ( lgB cc 2 a8 U (fun c1=>ucIB .i64 c1 (fun n32 d0=>ucIB .i64 d0 (fun n34 d1=>uc0B d1 ( mc33 c n32 n34 a3 a4 U (fun r_1 a9=>cB ( newB (.cells [(.slice none 0 0)] 1 true) a9 (fun V b0=>optB (fdP 0 (.pointer (some ⟨J,0,none⟩))) (fun b1=>chkB b1 ( lgB cc 2 b1 b0 (fun d2=>ucIB .i64 d2 (fun n45 d3=>ucIB .i64 d3 (fun n47 d4=>uc0B d4 ( b34 c n45 n47 a3 a4 b0 (fun r_2 d5=>pK ab (ct16 c) 256 r_2 [(.pointer (some ⟨J,0,none⟩)),(.pointer (some ⟨V,0,none⟩))] d5 (fun d6 a5=>pendB d6 ( lgB cc 1 (.pointer (some ⟨V,0,none⟩)) a5 (fun d7=>ucVB d7 (fun b2 d8=>chkB b2 ( uc0B d8 ( iP (ct16 c) 38 [.v b2,.v (.func (.func 39) ⟨[]⟩ ⟨[]⟩)] a5 (fun d9 b3=>un0B d9 (lgB cc 1 (.pointer (some ⟨V,0,none⟩)) b3 (fun e0=>ucVB e0 (fun a6 e1=>chkB a6 ( uc0B e1 ( bD [.v a6] (b40 c a6 b3 (fun r_3 e2=>K r_3 (.ofNat (nat_lit 0)) e2))))))))))))) ( K (.slice none 0 0) (.ofNat (nat_lit 0)) a5) [])))))))))) ( K (.slice none 0 0) r_1 a9) (notK (eqZK r_1 (.ofNat (nat_lit 0)))))))))))) ( K (.slice none 0 0) n27 U) (notK (eqZK n27 (.ofNat (nat_lit 0)))))))))))))))
noncomputable def wr16(c:aa):FB:=fun ls h K=>rI (fun J O=>rI (fun U V=>rV (fun a0 a1=>rI (fun a2 a3=>rI (fun a4 a5=>r0 (b16 c J U a0 a2 a4 h (fun r0 a6 h=>K [.v r0,.i a6] h)) a5) a3) a1) V) O) ls
noncomputable def w16(c:aa):FB:=wr16 c
theorem vb16:(fun(c:aa) (a0:Int) (a1:Int) (a2:Value) (a3:Int) (a4:Int) (h:HTr) (K:List Lf→HTr→RT)=>w16 c [.i a0,.i a1,.v a2,.i a3,.i a4] h K)=fun c a0 a1 a2 a3 a4 h K=>b16 c a0 a1 a2 a3 a4 h (fun r0 r1 h=>K [.v r0,.i r1] h):=by kernel_rfl
theorem qb16{c call:aa}(hct:call (.f 16)=w16 c){a0:Int}{a1:Int}{a2:Value}{a3:Int}{a4:Int}{h:HTr}{K:List Lf→HTr→RT}{K':Value→Int→HTr→RT}(hX:∀r0 r1 h,K [.v r0,.i r1] h=K' r0 r1 h):(BA ab ac call).call 16 [.i a0,.i a1,.v a2,.i a3,.i a4] h K=bD [.v a2] (b16 c a0 a1 a2 a3 a4 h K'):=by
 obtain rfl:K'=fun r0 r1 h=>K [.v r0,.i r1] h:=funext fun r0=>funext fun r1=>funext fun h=>(hX r0 r1 h).symm
 exact fm rfl ((c3 hct _ _ _).trans (c8 vb16 c a0 a1 a2 a3 a4 h K))
theorem pf16(c:aa)(ls:List Lf)(h:HTr)(K:List Lf→HTr→RT):f16 (BA ab ac (ct16 c)) ls h K=wr16 c ls h K:=q_rI (fun n6 l7=>q_rI (fun n8 l9=>q_rV (fun x10 l11=>q_rI (fun n12 l13=>q_rI (fun n14 l15=>q_r0 (cv (fun m16 h17=>q_lg (fun l18=>ah (fun n19 l20=>ah (fun n21 l22=>cN (fun x23 l24=>aV (aw (qr36 rfl (fun l25 h26=>ae (fun n27 l28=>aj (bv (af (rfl) (ai (fun x30=>aV (q_lg (fun l31=>ah (fun n32 l33=>ah (fun n34 l35=>aw (qm33 rfl (fun l36 h37=>ae (fun n38 l39=>aj (bv (af (rfl) (cv (fun m41 h42=>ai (fun x43=>aV (q_lg (fun l44=>ah (fun n45 l46=>ah (fun n47 l48=>aw (qb34 rfl (fun r_2 h50=>de (bP (q_rfun (fun p53 h54=>q_pend (q_lg (fun l55=>cN (fun x56 l57=>aV (aw (pJ (fun l58 h59=>aj (q_lg (fun l60=>cN (fun x61 l62=>aV (aw (qb40 rfl (fun r_3 h64=>de (bP (rfl)))))))))))))) (rfl) rfl))))))))))))))))))))))))))))))))))))))))
theorem ok16{c:aa}(hc:Cok c):Ent 16 (w16 c):=aB (f:=fun A=>f16 A) (ct:=ct16) pf16 (congrFun (congrFun e16 RT) HTr) i16 (ak hc (aC (ok33 hc) (aC (ok34 hc) (aC (ok36 hc) (aC (ok38 hc) (aC (ok40 hc) aN))))))
/-- crimp/corners.Straight -/
noncomputable def ct18(c:aa):aa:=tblF [(16,w16 c)] c
noncomputable def b18(c:aa)(a0:Int)(a1:Int)(a2:Value)(a3:Int)(a4:Int)(h:HTr)(K:Bool→Int→HTr→RT):RT:=bD [.v a2] (b16 c a0 a1 a2 a3 a4 h (fun r_1 r_2 J=>bh (fun a7 a8=>unBB a7 (fun a9 b0=>unIB b0 (fun n26 b1=>un0B b1 (K a9 n26 a8)))) (fun O=>optB (lenS r_1) (fun b2=>cB ( O [.b false,.i r_2] J) ( optB (idS 2 r_1 (.ofNat (nat_lit 0))) (fun b3=>optB (fdP 1 b3) (fun U=>chkB U ( lgB cc 1 U J (fun b4=>ucIB .u8 b4 (fun n34 b6=>uc0B b6 ( optB (idS 2 r_1 (.ofNat (nat_lit 1))) (fun b7=>optB (fdP 1 b7) (fun V=>chkB V ( lgB cc 1 V J (fun b8=>ucIB .u8 b8 (fun n39 b9=>uc0B b9 ( cB ( O [.b false,.i r_2] J) ( optB (idS 2 r_1 (.ofNat (nat_lit 1))) (fun c0=>optB (fdP 0 c0) (fun a5=>chkB a5 ( lgB cc 1 a5 J (fun c1=>ucIB .i64 c1 (fun n45 d0=>uc0B d0 ( optB (idS 2 r_1 (.ofNat (nat_lit 0))) (fun d1=>optB (fdP 0 d1) (fun a6=>chkB a6 ( lgB cc 1 a6 J (fun d2=>ucIB .i64 d2 (fun n50 d3=>uc0B d3 ( subK n45 n50 (fun c_=>al c_ (fun n52=>O [.b (eqZK n52 (.ofNat (nat_lit 4))),.i r_2] J))))))))))))))) (eqZK n34 n39)))))))))))))) (eqZK b2 (.ofNat (nat_lit 2)))))))
noncomputable def wr18(c:aa):FB:=fun ls h K=>rI (fun J O=>rI (fun U V=>rV (fun a0 a1=>rI (fun a2 a3=>rI (fun a4 a5=>r0 (b18 c J U a0 a2 a4 h (fun r0 a6 h=>K [.b r0,.i a6] h)) a5) a3) a1) V) O) ls
noncomputable def w18(c:aa):FB:=wr18 c
theorem pf18(c:aa)(ls:List Lf)(h:HTr)(K:List Lf→HTr→RT):f18 (BA ab ac (ct18 c)) ls h K=wr18 c ls h K:=q_rI (fun n6 l7=>q_rI (fun n8 l9=>q_rV (fun x10 l11=>q_rI (fun n12 l13=>q_rI (fun n14 l15=>q_r0 (qb16 rfl (fun r_1 r_2 h17=>de (cj (bP (aO (fun l22 h23=>fL (fun t24 l25=>ae (fun n26 l27=>aj (rfl)))) (fun j28=>ai (fun x29=>bt (af (ai (fun x31=>ai (fun x32=>aV (q_lg (fun l33=>ah (fun n34 l35=>aw (ai (fun x36=>ai (fun x37=>aV (q_lg (fun l38=>ah (fun n39 l40=>aw (bt (af (ai (fun x42=>ai (fun x43=>aV (q_lg (fun l44=>ah (fun n45 l46=>aw (ai (fun x47=>ai (fun x48=>aV (q_lg (fun l49=>ah (fun n50 l51=>aw (aP (fun n52=>bt (rfl))))))))))))))) (rfl))))))))))))))) (rfl))))))))))))))
theorem ok18{c:aa}(hc:Cok c):Ent 18 (w18 c):=aB (f:=fun A=>f18 A) (ct:=ct18) pf18 (congrFun (congrFun e18 RT) HTr) i18 (ak hc (aC (ok16 hc) aN))
/-- crimp/corners.Angles -/
noncomputable def ct19(c:aa):aa:=tblF [(16,w16 c)] c
noncomputable def b19(c:aa)(a0:Int)(a1:Int)(a2:Value)(a3:Int)(a4:Int)(h:HTr)(K:Value→Int→HTr→RT):RT:=bD [.v a2] (b16 c a0 a1 a2 a3 a4 h (fun r_1 r_2 a5=>cB ( optB (lenS r_1) (fun J=>optB (mkOk J J) (fun d8=>newB (.cells (bC [(.int .i64 (.ofNat (nat_lit 0)))] (Int.toNat J)) 1 true) a5 (fun O a9=>optB (lenS r_1) (fun b0=>bk (fun b1 b2 U=>unIB b2 (fun n31 b3=>un0B b3 (cB ( K (.slice (some ⟨O,0,(some 11)⟩) (Int.toNat J) ((Int.toNat J)+1)) (.ofNat (nat_lit 0)) U) ( optB (idS 2 r_1 n31) (fun b4=>lgB cc 2 b4 U (fun b6=>ucIB .i64 b6 (fun n36 b7=>ucIB .u8 b7 (fun n38 b8=>uc0B b8 ( addK n31 (.ofNat (nat_lit 1)) (fun c_=>al c_ (fun n40=>optB (lenS r_1) (fun a6=>@Bool.rec (fun _=>RT) (remK n40 a6 (fun n42=>optB (idS 2 r_1 n42) (fun b9=>optB (fdP 0 b9) (fun a7=>chkB a7 ( lgB cc 1 a7 U (fun c0=>ucIB .i64 c0 (fun n46 c1=>uc0B c1 ( subK n46 n36 (fun c_=>al c_ (fun n48=>addK n48 (.ofNat (nat_lit 8)) (fun c_=>al c_ (fun n49=>@Bool.rec (fun _=>RT) (remK n49 (.ofNat (nat_lit 8)) (fun n50=>optB (idS 1 (.slice (some ⟨O,0,(some 11)⟩) (Int.toNat J) ((Int.toNat J)+1)) n31) (fun d0=>stB d0 [(.int .i64 n50)] U (fun d9 V=>optB (idS 1 (.slice (some ⟨O,0,(some 11)⟩) (Int.toNat J) ((Int.toNat J)+1)) n31) (fun d1=>lgB cc 1 d1 V (fun d2=>ucIB .i64 d2 (fun n56 d3=>uc0B d3 ( bh (fun d4 d5=>un0B d4 (addK n31 (.ofNat (nat_lit 1)) (fun c_=>al c_ (fun n61=>b1 [.i n61] d5)))) (fun a8=>cB ( a8 [] V) ( optB (idS 1 (.slice (some ⟨O,0,(some 11)⟩) (Int.toNat J) ((Int.toNat J)+1)) n31) (fun d6=>stB d6 [(.int .i64 (.ofNat (nat_lit 8)))] V (fun e0 d7=>a8 [] d7))) (eqZK n56 (.ofNat (nat_lit 0)))))))))))) none (isZ (.ofNat (nat_lit 8))))))))))))))) none (isZ a6)))))))))) (notK (leZ b0 n31))))) [.i (.ofNat (nat_lit 0))] a9))))) ( K (.slice none 0 0) r_2 a5) (notK (eqZK r_2 (.ofNat (nat_lit 0))))))
noncomputable def wr19(c:aa):FB:=fun ls h K=>rI (fun J O=>rI (fun U V=>rV (fun a0 a1=>rI (fun a2 a3=>rI (fun a4 a5=>r0 (b19 c J U a0 a2 a4 h (fun r0 a6 h=>K [.v r0,.i a6] h)) a5) a3) a1) V) O) ls
noncomputable def w19(c:aa):FB:=wr19 c
theorem pf19(c:aa)(ls:List Lf)(h:HTr)(K:List Lf→HTr→RT):f19 (BA ab ac (ct19 c)) ls h K=wr19 c ls h K:=q_rI (fun n6 l7=>q_rI (fun n8 l9=>q_rV (fun x10 l11=>q_rI (fun n12 l13=>q_rI (fun n14 l15=>q_r0 (qb16 rfl (fun r_1 r_2 h17=>de (cj (bP (bv (af (rfl) (ai (fun x23=>ai (fun x24=>cv (fun m25 h26=>ai (fun x27=>aQ (fun s28 l29 h30=>ae (fun n31 l32=>aj (aK (af (ai (fun x34=>q_lg (fun l35=>ah (fun n36 l37=>ah (fun n38 l39=>aw (aq (fun n40=>ai (fun x41=>cw (fun n42=>ai (fun x43=>ai (fun x44=>aV (q_lg (fun l45=>ah (fun n46 l47=>aw (aP (fun n48=>aq (fun n49=>cw (fun n50=>ai (fun x51=>q_st (fun l52 h53=>ai (fun x54=>q_lg (fun l55=>ah (fun n56 l57=>aw (bt (aO (fun l59 h60=>aj (aq (fun n61=>rfl))) (fun j62=>af (ai (fun x63=>q_st (fun l64 h65=>rfl))) (rfl))))))))))))))))))))))))))) (rfl)))))))))))))))))))))
theorem ok19{c:aa}(hc:Cok c):Ent 19 (w19 c):=aB (f:=fun A=>f19 A) (ct:=ct19) pf19 (congrFun (congrFun e19 RT) HTr) i19 (ak hc (aC (ok16 hc) aN))
/-- crimp/crimplaw09.same -/
noncomputable def ct20(c:aa):aa:=tblF [] c
noncomputable def b20(c:aa)(a0:Value)(a1:Value)(h:HTr)(K:Int→HTr→RT):RT:=optB (lenS a0) (fun O=>optB (lenS a1) (fun U=>cB ( optB (capS a0) (fun V=>optB (lenS a0) (fun a2=>cB ( bk (fun a3 a4 J=>unIB a4 (fun n19 a5=>un0B a5 (optB (lenS a0) (fun a6=>cB ( K (.ofNat (nat_lit 1)) J) ( optB (idS 1 a0 n19) (fun a7=>lgB cc 1 a7 J (fun a8=>ucIB .i64 a8 (fun n25 a9=>uc0B a9 ( optB (idS 1 a1 n19) (fun b0=>lgB cc 1 b0 J (fun b1=>ucIB .i64 b1 (fun n29 b2=>uc0B b2 ( cB ( addK n19 (.ofNat (nat_lit 1)) (fun c_=>al c_ (fun n32=>a3 [.i n32] J))) ( K (.ofNat (nat_lit 0)) J) (notK (eqZK n25 n29))))))))))) (notK (leZ a6 n19)))))) [.i (.ofNat (nat_lit 0))] h) ( K (.ofNat (nat_lit 0)) h) (notK (eqZK V a2))))) ( K (.ofNat (nat_lit 0)) h) (notK (eqZK O U))))
noncomputable def wr20(c:aa):FB:=fun ls h K=>rV (fun J O=>rV (fun U V=>r0 (b20 c J U h (fun r0 h=>K [.i r0] h)) V) O) ls
noncomputable def w20(c:aa):FB:=wr20 c
theorem pf20(c:aa)(ls:List Lf)(h:HTr)(K:List Lf→HTr→RT):f20 (BA ab ac (ct20 c)) ls h K=wr20 c ls h K:=q_rV (fun x6 l7=>q_rV (fun x8 l9=>q_r0 (ai (fun x10=>ai (fun x11=>bv (af (rfl) (ai (fun x13=>ai (fun x14=>bv (af (rfl) (aQ (fun s16 l17 h18=>ae (fun n19 l20=>aj (ai (fun x21=>aK (af (ai (fun x23=>q_lg (fun l24=>ah (fun n25 l26=>aw (ai (fun x27=>q_lg (fun l28=>ah (fun n29 l30=>aw (bv (af (rfl) (aq (fun n32=>rfl)))))))))))) (rfl)))))))))))))))))
theorem ok20{c:aa}(hc:Cok c):Ent 20 (w20 c):=aB (f:=fun A=>f20 A) (ct:=ct20) pf20 (congrFun (congrFun e20 RT) HTr) i20 (ak hc aN)
/-- slices.insertionSortCmpFunc[crimp/patterns.Crease] -/
noncomputable def ct105(c:aa):aa:=tblF [] c
noncomputable def b105(c:aa)(a0:Value)(a1:Int)(a2:Int)(a3:Value)(h:HTr)(K:HTr→RT):RT:=addK a1 (.ofNat (nat_lit 1)) (fun c_=>al c_ (fun n14=>bk (fun a4 a5 U=>unIB a5 (fun n18 a6=>un0B a6 (cB ( K U) ( bh (fun a7 a8=>un0B a7 (addK n18 (.ofNat (nat_lit 1)) (fun c_=>al c_ (fun n23=>a4 [.i n23] a8)))) (fun V=>bk (fun a9 b0 J=>unIB b0 (fun n28 b1=>un0B b1 (cB ( V [] J) ( optB (idS 3 a0 n28) (fun b2=>lgB cc 3 b2 J (fun b3=>ucIB .i64 b3 (fun n33 b4=>ucIB .u8 b4 (fun n35 b6=>ucIB .u8 b6 (fun n37 b7=>uc0B b7 ( subK n28 (.ofNat (nat_lit 1)) (fun c_=>al c_ (fun n39=>optB (idS 3 a0 n39) (fun b8=>lgB cc 3 b8 J (fun b9=>ucIB .i64 b9 (fun n42 c0=>ucIB .u8 c0 (fun n44 c1=>ucIB .u8 c1 (fun n46 d0=>uc0B d0 ( db ab ac (ct105 c) a3 [(.agg ⟨[(.int .i64 n33),(.int .u8 n35),(.int .u8 n37)]⟩),(.agg ⟨[(.int .i64 n42),(.int .u8 n44),(.int .u8 n46)]⟩)] [(.leaf (.i .i64))] J (fun d1 O=>unIB d1 (fun n50 d2=>un0B d2 (cB ( V [] O) ( subK n28 (.ofNat (nat_lit 1)) (fun c_=>al c_ (fun n53=>subK n28 (.ofNat (nat_lit 1)) (fun c_=>al c_ (fun n54=>optB (idS 3 a0 n54) (fun d3=>lgB cc 3 d3 O (fun d4=>ucIB .i64 d4 (fun n57 d5=>ucIB .u8 d5 (fun n59 d6=>ucIB .u8 d6 (fun n61 d7=>uc0B d7 ( optB (idS 3 a0 n28) (fun d8=>lgB cc 3 d8 O (fun d9=>ucIB .i64 d9 (fun n65 e0=>ucIB .u8 e0 (fun n67 e1=>ucIB .u8 e1 (fun n69 e2=>uc0B e2 ( optB (idS 3 a0 n28) (fun f0=>stB f0 [(.int .i64 n57),(.int .u8 n59),(.int .u8 n61)] O (fun g0 f1=>optB (idS 3 a0 n53) (fun f2=>stB f2 [(.int .i64 n65),(.int .u8 n67),(.int .u8 n69)] f1 (fun g1 gl=>subK n28 (.ofNat (nat_lit 1)) (fun c_=>al c_ (fun n77=>a9 [.i n77] gl))))))))))))))))))))))) (notK (leZ (.ofNat (nat_lit 0)) n50)))))))))))))))))))) (notK (leZ n28 a1))))) [.i n18] U)) (notK (leZ a2 n18))))) [.i n14] h))
noncomputable def wr105(c:aa):FB:=fun ls h K=>rV (fun J O=>rI (fun U V=>rI (fun a0 a1=>rV (fun a2 a3=>r0 (b105 c J U a0 a2 h (fun h=>K [] h)) a3) a1) V) O) ls
noncomputable def w105(c:aa):FB:=wr105 c
theorem pf105(c:aa)(ls:List Lf)(h:HTr)(K:List Lf→HTr→RT):f105 (BA ab ac (ct105 c)) ls h K=wr105 c ls h K:=q_rV (fun x6 l7=>q_rI (fun n8 l9=>q_rI (fun n10 l11=>q_rV (fun x12 l13=>q_r0 (aq (fun n14=>aQ (fun s15 l16 h17=>ae (fun n18 l19=>aj (aK (af (aO (fun l21 h22=>aj (aq (fun n23=>rfl))) (fun j24=>aQ (fun s25 l26 h27=>ae (fun n28 l29=>aj (bu (af (ai (fun x31=>q_lg (fun l32=>ah (fun n33 l34=>ah (fun n35 l36=>ah (fun n37 l38=>aw (aP (fun n39=>ai (fun x40=>q_lg (fun l41=>ah (fun n42 l43=>ah (fun n44 l45=>ah (fun n46 l47=>aw (cW (fun l48 h49=>ae (fun n50 l51=>aj (aK (af (aP (fun n53=>aP (fun n54=>ai (fun x55=>q_lg (fun l56=>ah (fun n57 l58=>ah (fun n59 l60=>ah (fun n61 l62=>aw (ai (fun x63=>q_lg (fun l64=>ah (fun n65 l66=>ah (fun n67 l68=>ah (fun n69 l70=>aw (ai (fun x71=>q_st (fun l72 h73=>ai (fun x74=>q_st (fun l75 h76=>aP (fun n77=>rfl)))))))))))))))))))) (rfl))))))))))))))))))) (rfl))))))) (rfl)))))))))))
theorem ok105{c:aa}(hc:Cok c):Ent 105 (w105 c):=aB (f:=fun A=>f105 A) (ct:=ct105) pf105 (congrFun (congrFun e105 RT) HTr) i105 (ak hc aN)
/-- slices.order2CmpFunc[crimp/patterns.Crease] -/
noncomputable def ct133(c:aa):aa:=tblF [] c
noncomputable def b133(c:aa)(a0:Value)(a1:Int)(a2:Int)(a3:Value)(a4:Value)(h:HTr)(K:Int→Int→HTr→RT):RT:=optB (idS 3 a0 a2) (fun V=>lgB cc 3 V h (fun a5=>ucIB .i64 a5 (fun n18 a6=>ucIB .u8 a6 (fun n20 a7=>ucIB .u8 a7 (fun n22 a8=>uc0B a8 ( optB (idS 3 a0 a1) (fun a9=>lgB cc 3 a9 h (fun b0=>ucIB .i64 b0 (fun n26 b1=>ucIB .u8 b1 (fun n28 b2=>ucIB .u8 b2 (fun n30 b3=>uc0B b3 ( db ab ac (ct133 c) a4 [(.agg ⟨[(.int .i64 n18),(.int .u8 n20),(.int .u8 n22)]⟩),(.agg ⟨[(.int .i64 n26),(.int .u8 n28),(.int .u8 n30)]⟩)] [(.leaf (.i .i64))] h (fun b4 J=>unIB b4 (fun n34 b6=>un0B b6 (cB ( K a1 a2 J) ( optB (nilP a3) (fun O=>chkB O ( lgB cc 1 O J (fun b7=>ucIB .i64 b7 (fun n39 b8=>uc0B b8 ( addK n39 (.ofNat (nat_lit 1)) (fun c_=>al c_ (fun n41=>optB (nilP a3) (fun U=>chkB U ( stB U [(.int .i64 n41)] J (fun c0 b9=>K a2 a1 b9))))))))))) (notK (leZ (.ofNat (nat_lit 0)) n34)))))))))))))))))
noncomputable def wr133(c:aa):FB:=fun ls h K=>rV (fun J O=>rI (fun U V=>rI (fun a0 a1=>rV (fun a2 a3=>rV (fun a4 a5=>r0 (b133 c J U a0 a2 a4 h (fun r0 a6 h=>K [.i r0,.i a6] h)) a5) a3) a1) V) O) ls
noncomputable def w133(c:aa):FB:=wr133 c
theorem vb133:(fun(c:aa) (a0:Value) (a1:Int) (a2:Int) (a3:Value) (a4:Value) (h:HTr) (K:List Lf→HTr→RT)=>w133 c [.v a0,.i a1,.i a2,.v a3,.v a4] h K)=fun c a0 a1 a2 a3 a4 h K=>b133 c a0 a1 a2 a3 a4 h (fun r0 r1 h=>K [.i r0,.i r1] h):=by kernel_rfl
theorem qb133{c call:aa}(hct:call (.f 133)=w133 c){a0:Value}{a1:Int}{a2:Int}{a3:Value}{a4:Value}{h:HTr}{K:List Lf→HTr→RT}{K':Int→Int→HTr→RT}(hX:∀r0 r1 h,K [.i r0,.i r1] h=K' r0 r1 h):(BA ab ac call).call 133 [.v a0,.i a1,.i a2,.v a3,.v a4] h K=bD [.v a0,.v a3,.v a4] (b133 c a0 a1 a2 a3 a4 h K'):=by
 obtain rfl:K'=fun r0 r1 h=>K [.i r0,.i r1] h:=funext fun r0=>funext fun r1=>funext fun h=>(hX r0 r1 h).symm
 exact fm rfl ((c3 hct _ _ _).trans (c8 vb133 c a0 a1 a2 a3 a4 h K))
theorem pf133(c:aa)(ls:List Lf)(h:HTr)(K:List Lf→HTr→RT):f133 (BA ab ac (ct133 c)) ls h K=wr133 c ls h K:=q_rV (fun x6 l7=>q_rI (fun n8 l9=>q_rI (fun n10 l11=>q_rV (fun x12 l13=>q_rV (fun x14 l15=>q_r0 (ai (fun x16=>q_lg (fun l17=>ah (fun n18 l19=>ah (fun n20 l21=>ah (fun n22 l23=>aw (ai (fun x24=>q_lg (fun l25=>ah (fun n26 l27=>ah (fun n28 l29=>ah (fun n30 l31=>aw (cW (fun l32 h33=>ae (fun n34 l35=>aj (aK (af (ai (fun x37=>aV (q_lg (fun l38=>ah (fun n39 l40=>aw (aq (fun n41=>ai (fun x42=>aV (q_st (fun l43 h44=>rfl)))))))))) (rfl)))))))))))))))))))))))
theorem ok133{c:aa}(hc:Cok c):Ent 133 (w133 c):=aB (f:=fun A=>f133 A) (ct:=ct133) pf133 (congrFun (congrFun e133 RT) HTr) i133 (ak hc aN)
/-- slices.medianCmpFunc[crimp/patterns.Crease] -/
noncomputable def ct128(c:aa):aa:=tblF [(133,w133 c)] c
noncomputable def b128(c:aa)(a0:Value)(a1:Int)(a2:Int)(a3:Int)(a4:Value)(a5:Value)(h:HTr)(K:Int→HTr→RT):RT:=bD [.v a0,.v a4,.v a5] (b133 c a0 a1 a2 a4 a5 h (fun r_1 r_2 J=>bD [.v a0,.v a4,.v a5] (b133 c a0 r_2 a3 a4 a5 J (fun r_3 r_4 O=>bD [.v a0,.v a4,.v a5] (b133 c a0 r_1 r_3 a4 a5 O (fun r_5 r_6 U=>K r_6 U))))))
noncomputable def wr128(c:aa):FB:=fun ls h K=>rV (fun J O=>rI (fun U V=>rI (fun a0 a1=>rI (fun a2 a3=>rV (fun a4 a5=>rV (fun a6 a7=>r0 (b128 c J U a0 a2 a4 a6 h (fun r0 h=>K [.i r0] h)) a7) a5) a3) a1) V) O) ls
noncomputable def w128(c:aa):FB:=wr128 c
theorem pf128(c:aa)(ls:List Lf)(h:HTr)(K:List Lf→HTr→RT):f128 (BA ab ac (ct128 c)) ls h K=wr128 c ls h K:=q_rV (fun x6 l7=>q_rI (fun n8 l9=>q_rI (fun n10 l11=>q_rI (fun n12 l13=>q_rV (fun x14 l15=>q_rV (fun x16 l17=>q_r0 (qb133 rfl (fun r_1 r_2 h19=>cj (cj (bP (qb133 rfl (fun r_3 r_4 h25=>cj (cj (bP (qb133 rfl (fun r_5 r_6 h31=>cj (cj (bP (rfl)))))))))))))))))))
theorem ok128{c:aa}(hc:Cok c):Ent 128 (w128 c):=aB (f:=fun A=>f128 A) (ct:=ct128) pf128 (congrFun (congrFun e128 RT) HTr) i128 (ak hc (aC (ok133 hc) aN))
/-- slices.choosePivotCmpFunc[crimp/patterns.Crease] -/
noncomputable def ct108(c:aa):aa:=tblF [(128,w128 c)] c
noncomputable def wr108(c:aa):FB:=f108 (BA ab ac (ct108 c))
noncomputable def w108(c:aa):FB:=wr108 c
theorem ok108{c:aa}(hc:Cok c):Ent 108 (w108 c):=aB (f:=fun A=>f108 A) (ct:=ct108) (fun _ _ _ _=>rfl) (congrFun (congrFun e108 RT) HTr) i108 (ak hc (aC (ok128 hc) aN))
/-- slices.partialInsertionSortCmpFunc[crimp/patterns.Crease] -/
noncomputable def ct110(c:aa):aa:=tblF [] c
noncomputable def wr110(c:aa):FB:=f110 (BA ab ac (ct110 c))
noncomputable def w110(c:aa):FB:=wr110 c
theorem ok110{c:aa}(hc:Cok c):Ent 110 (w110 c):=aB (f:=fun A=>f110 A) (ct:=ct110) (fun _ _ _ _=>rfl) (congrFun (congrFun e110 RT) HTr) i110 (ak hc aN)
/-- slices.partitionCmpFunc[crimp/patterns.Crease] -/
noncomputable def rk(c:aa):aa:=tblF [] c
noncomputable def b112(c:aa)(a0:Value)(a1:Int)(a2:Int)(a3:Int)(a4:Value)(h:HTr)(K:Int→Bool→HTr→RT):RT:=optB (idS 3 a0 a3) (fun c1=>lgB cc 3 c1 h (fun d0=>ucIB .i64 d0 (fun n18 d1=>ucIB .u8 d1 (fun n20 d2=>ucIB .u8 d2 (fun n22 d3=>uc0B d3 ( optB (idS 3 a0 a1) (fun d4=>lgB cc 3 d4 h (fun d5=>ucIB .i64 d5 (fun n26 d6=>ucIB .u8 d6 (fun n28 d7=>ucIB .u8 d7 (fun n30 d8=>uc0B d8 ( optB (idS 3 a0 a1) (fun d9=>stB d9 [(.int .i64 n18),(.int .u8 n20),(.int .u8 n22)] h (fun tn e0=>optB (idS 3 a0 a3) (fun e1=>stB e1 [(.int .i64 n26),(.int .u8 n28),(.int .u8 n30)] e0 (fun tq e2=>addK a1 (.ofNat (nat_lit 1)) (fun c_=>al c_ (fun n38=>subK a2 (.ofNat (nat_lit 1)) (fun c_=>al c_ (fun n39=>bh (fun f0 f1=>unIB f0 (fun n42 f2=>un0B f2 (bh (fun gl J=>unIB gl (fun n46 g0=>un0B g0 (cB ( optB (idS 3 a0 n46) (fun g1=>lgB cc 3 g1 J (fun g2=>ucIB .i64 g2 (fun n73 g3=>ucIB .u8 g3 (fun n75 g4=>ucIB .u8 g4 (fun n77 g5=>uc0B g5 ( optB (idS 3 a0 n42) (fun g6=>lgB cc 3 g6 J (fun g7=>ucIB .i64 g7 (fun n81 g8=>ucIB .u8 g8 (fun n83 g9=>ucIB .u8 g9 (fun n85 h0=>uc0B h0 ( optB (idS 3 a0 n42) (fun h1=>stB h1 [(.int .i64 n73),(.int .u8 n75),(.int .u8 n77)] J (fun tr h2=>optB (idS 3 a0 n46) (fun h3=>stB h3 [(.int .i64 n81),(.int .u8 n83),(.int .u8 n85)] h2 (fun tt h4=>addK n42 (.ofNat (nat_lit 1)) (fun c_=>al c_ (fun n93=>subK n46 (.ofNat (nat_lit 1)) (fun c_=>al c_ (fun h5=>bk (fun h6 h7 h8=>unIB h7 (fun h9 i0=>unIB i0 (fun b1 i1=>un0B i1 (bh (fun i2 j0=>unIB i2 (fun n104 j1=>un0B j1 (bh (fun j2 O=>unIB j2 (fun n108 j3=>un0B j3 (cB ( optB (idS 3 a0 n108) (fun j4=>lgB cc 3 j4 O (fun j5=>ucIB .i64 j5 (fun j6 j7=>ucIB .u8 j7 (fun j8 j9=>ucIB .u8 j9 (fun k0 k1=>uc0B k1 ( optB (idS 3 a0 n104) (fun k2=>lgB cc 3 k2 O (fun k3=>ucIB .i64 k3 (fun k4 k5=>ucIB .u8 k5 (fun k6 k7=>ucIB .u8 k7 (fun k8 k9=>uc0B k9 ( optB (idS 3 a0 n104) (fun l0=>stB l0 [(.int .i64 j6),(.int .u8 j8),(.int .u8 k0)] O (fun tu l1=>optB (idS 3 a0 n108) (fun l2=>stB l2 [(.int .i64 k4),(.int .u8 k6),(.int .u8 k8)] l1 (fun tv l3=>addK n104 (.ofNat (nat_lit 1)) (fun c_=>al c_ (fun l4=>subK n108 (.ofNat (nat_lit 1)) (fun c_=>al c_ (fun l5=>h6 [.i l4,.i l5] l3))))))))))))))))))))) ( optB (idS 3 a0 a1) (fun l6=>lgB cc 3 l6 O (fun l7=>ucIB .i64 l7 (fun n113 l8=>ucIB .u8 l8 (fun n115 l9=>ucIB .u8 l9 (fun n117 m0=>uc0B m0 ( optB (idS 3 a0 n108) (fun m1=>lgB cc 3 m1 O (fun m2=>ucIB .i64 m2 (fun m3 m4=>ucIB .u8 m4 (fun m5 m6=>ucIB .u8 m6 (fun m7 m8=>uc0B m8 ( optB (idS 3 a0 n108) (fun m9=>stB m9 [(.int .i64 n113),(.int .u8 n115),(.int .u8 n117)] O (fun tw n0=>optB (idS 3 a0 a1) (fun n1=>stB n1 [(.int .i64 m3),(.int .u8 m5),(.int .u8 m7)] n0 (fun tx n2=>K n108 false n2))))))))))))))))) (notK (leZ n104 n108))))) (fun b2=>bk (fun o0 o1 a7=>unIB o1 (fun U o2=>un0B o2 (cB ( b2 [.i U] a7) ( optB (idS 3 a0 U) (fun o3=>lgB cc 3 o3 a7 (fun o4=>ucIB .i64 o4 (fun o5 o6=>ucIB .u8 o6 (fun o7 o8=>ucIB .u8 o8 (fun o9 p0=>uc0B p0 ( optB (idS 3 a0 a1) (fun p1=>lgB cc 3 p1 a7 (fun p2=>ucIB .i64 p2 (fun p3 p4=>ucIB .u8 p4 (fun p5 p6=>ucIB .u8 p6 (fun p7 p8=>uc0B p8 ( db ab ac (rk c) a4 [(.agg ⟨[(.int .i64 o5),(.int .u8 o7),(.int .u8 o9)]⟩),(.agg ⟨[(.int .i64 p3),(.int .u8 p5),(.int .u8 p7)]⟩)] [(.leaf (.i .i64))] a7 (fun p9 b3=>unIB p9 (fun q0 q1=>un0B q1 (cB ( b2 [.i U] b3) ( subK U (.ofNat (nat_lit 1)) (fun c_=>al c_ (fun q2=>o0 [.i q2] b3))) (!(notK (leZ (.ofNat (nat_lit 0)) q0))))))))))))))))))) (leZ n104 U)))) [.i b1] j0)))) (fun b4=>bk (fun q3 q4 a8=>unIB q4 (fun V q5=>un0B q5 (cB ( b4 [.i V] a8) ( optB (idS 3 a0 V) (fun q6=>lgB cc 3 q6 a8 (fun q7=>ucIB .i64 q7 (fun q8 q9=>ucIB .u8 q9 (fun rT rU=>ucIB .u8 rU (fun rW rX=>uc0B rX ( optB (idS 3 a0 a1) (fun rY=>lgB cc 3 rY a8 (fun rZ=>ucIB .i64 rZ (fun r1 r2=>ucIB .u8 r2 (fun r3 r4=>ucIB .u8 r4 (fun r5 r6=>uc0B r6 ( db ab ac (rk c) a4 [(.agg ⟨[(.int .i64 q8),(.int .u8 rT),(.int .u8 rW)]⟩),(.agg ⟨[(.int .i64 r1),(.int .u8 r3),(.int .u8 r5)]⟩)] [(.leaf (.i .i64))] a8 (fun r7 b6=>unIB r7 (fun r8 r9=>un0B r9 (cB ( b4 [.i V] b6) ( addK V (.ofNat (nat_lit 1)) (fun c_=>al c_ (fun sa=>q3 [.i sa] b6))) (notK (leZ (.ofNat (nat_lit 0)) r8)))))))))))))))))) (leZ V b1)))) [.i h9] h8))))) [.i n93,.i h5] h4))))))))))))))))))))) ( optB (idS 3 a0 a1) (fun sb=>lgB cc 3 sb J (fun sc=>ucIB .i64 sc (fun n51 sd=>ucIB .u8 sd (fun n53 se=>ucIB .u8 se (fun n55 sf=>uc0B sf ( optB (idS 3 a0 n46) (fun sh=>lgB cc 3 sh J (fun si=>ucIB .i64 si (fun n59 sj=>ucIB .u8 sj (fun n61 sn=>ucIB .u8 sn (fun n63 so=>uc0B so ( optB (idS 3 a0 n46) (fun sq=>stB sq [(.int .i64 n51),(.int .u8 n53),(.int .u8 n55)] J (fun tz ss=>optB (idS 3 a0 a1) (fun su=>stB su [(.int .i64 n59),(.int .u8 n61),(.int .u8 n63)] ss (fun tA sw=>K n46 true sw))))))))))))))))) (notK (leZ n42 n46))))) (fun b7=>bk (fun sx sy a9=>unIB sy (fun a5 sz=>un0B sz (cB ( b7 [.i a5] a9) ( optB (idS 3 a0 a5) (fun sA=>lgB cc 3 sA a9 (fun sB=>ucIB .i64 sB (fun sC sD=>ucIB .u8 sD (fun sE sF=>ucIB .u8 sF (fun sG sH=>uc0B sH ( optB (idS 3 a0 a1) (fun sI=>lgB cc 3 sI a9 (fun sJ=>ucIB .i64 sJ (fun sK sL=>ucIB .u8 sL (fun sM sN=>ucIB .u8 sN (fun sO sP=>uc0B sP ( db ab ac (rk c) a4 [(.agg ⟨[(.int .i64 sC),(.int .u8 sE),(.int .u8 sG)]⟩),(.agg ⟨[(.int .i64 sK),(.int .u8 sM),(.int .u8 sO)]⟩)] [(.leaf (.i .i64))] a9 (fun sQ b8=>unIB sQ (fun sR sS=>un0B sS (cB ( b7 [.i a5] b8) ( subK a5 (.ofNat (nat_lit 1)) (fun c_=>al c_ (fun sU=>sx [.i sU] b8))) (!(notK (leZ (.ofNat (nat_lit 0)) sR))))))))))))))))))) (leZ n42 a5)))) [.i n39] f1)))) (fun b9=>bk (fun sV sW b0=>unIB sW (fun a6 sX=>un0B sX (cB ( b9 [.i a6] b0) ( optB (idS 3 a0 a6) (fun sY=>lgB cc 3 sY b0 (fun sZ=>ucIB .i64 sZ (fun s0 s1=>ucIB .u8 s1 (fun s2 s3=>ucIB .u8 s3 (fun s4 s5=>uc0B s5 ( optB (idS 3 a0 a1) (fun s6=>lgB cc 3 s6 b0 (fun s7=>ucIB .i64 s7 (fun s8 s9=>ucIB .u8 s9 (fun ta tb=>ucIB .u8 tb (fun tc td=>uc0B td ( db ab ac (rk c) a4 [(.agg ⟨[(.int .i64 s0),(.int .u8 s2),(.int .u8 s4)]⟩),(.agg ⟨[(.int .i64 s8),(.int .u8 ta),(.int .u8 tc)]⟩)] [(.leaf (.i .i64))] b0 (fun tg c0=>unIB tg (fun th ti=>un0B ti (cB ( b9 [.i a6] c0) ( addK a6 (.ofNat (nat_lit 1)) (fun c_=>al c_ (fun tj=>sV [.i tj] c0))) (notK (leZ (.ofNat (nat_lit 0)) th)))))))))))))))))) (leZ a6 n39)))) [.i n38] e2)))))))))))))))))))))
noncomputable def wr112(c:aa):FB:=fun ls h K=>rV (fun J O=>rI (fun U V=>rI (fun a0 a1=>rI (fun a2 a3=>rV (fun a4 a5=>r0 (b112 c J U a0 a2 a4 h (fun r0 a6 h=>K [.i r0,.b a6] h)) a5) a3) a1) V) O) ls
noncomputable def w112(c:aa):FB:=wr112 c
theorem pf112(c:aa)(ls:List Lf)(h:HTr)(K:List Lf→HTr→RT):f112 (BA ab ac (rk c)) ls h K=wr112 c ls h K:=q_rV (fun x6 l7=>q_rI (fun n8 l9=>q_rI (fun n10 l11=>q_rI (fun n12 l13=>q_rV (fun x14 l15=>q_r0 (ai (fun x16=>q_lg (fun l17=>ah (fun n18 l19=>ah (fun n20 l21=>ah (fun n22 l23=>aw (ai (fun x24=>q_lg (fun l25=>ah (fun n26 l27=>ah (fun n28 l29=>ah (fun n30 l31=>aw (ai (fun x32=>q_st (fun l33 h34=>ai (fun x35=>q_st (fun l36 h37=>aq (fun n38=>aP (fun n39=>aO (fun l40 h41=>ae (fun n42 l43=>aj (aO (fun l44 h45=>ae (fun n46 l47=>aj (bu (af (ai (fun x49=>q_lg (fun l50=>ah (fun n51 l52=>ah (fun n53 l54=>ah (fun n55 l56=>aw (ai (fun x57=>q_lg (fun l58=>ah (fun n59 l60=>ah (fun n61 l62=>ah (fun n63 l64=>aw (ai (fun x65=>q_st (fun l66 h67=>ai (fun x68=>q_st (fun l69 h70=>rfl))))))))))))))))) (ai (fun x71=>q_lg (fun l72=>ah (fun n73 l74=>ah (fun n75 l76=>ah (fun n77 l78=>aw (ai (fun x79=>q_lg (fun l80=>ah (fun n81 l82=>ah (fun n83 l84=>ah (fun n85 l86=>aw (ai (fun x87=>q_st (fun l88 h89=>ai (fun x90=>q_st (fun l91 h92=>aq (fun n93=>aP (fun n94=>aQ (fun s95 l96 h97=>ae (fun n98 l99=>ae (fun n100 l101=>aj (aO (fun l102 h103=>ae (fun n104 l105=>aj (aO (fun l106 h107=>ae (fun n108 l109=>aj (bu (af (ai (fun x111=>q_lg (fun l112=>ah (fun n113 l114=>ah (fun n115 l116=>ah (fun n117 l118=>aw (ai (fun x119=>q_lg (fun l120=>ah (fun n121 l122=>ah (fun n123 l124=>ah (fun n125 l126=>aw (ai (fun x127=>q_st (fun l128 h129=>ai (fun x130=>q_st (fun l131 h132=>rfl))))))))))))))))) (ai (fun x133=>q_lg (fun l134=>ah (fun n135 l136=>ah (fun n137 l138=>ah (fun n139 l140=>aw (ai (fun x141=>q_lg (fun l142=>ah (fun n143 l144=>ah (fun n145 l146=>ah (fun n147 l148=>aw (ai (fun x149=>q_st (fun l150 h151=>ai (fun x152=>q_st (fun l153 h154=>aq (fun n155=>aP (fun n156=>rfl))))))))))))))))))))))) (fun j157=>aQ (fun s158 l159 h160=>ae (fun n161 l162=>aj (kL (af (ai (fun x164=>q_lg (fun l165=>ah (fun n166 l167=>ah (fun n168 l169=>ah (fun n170 l171=>aw (ai (fun x172=>q_lg (fun l173=>ah (fun n174 l175=>ah (fun n176 l177=>ah (fun n178 l179=>aw (cW (fun l180 h181=>ae (fun n182 l183=>aj (aK (af (aP (fun n185=>rfl)) (rfl)))))))))))))))))) (rfl))))))))) (fun j186=>aQ (fun s187 l188 h189=>ae (fun n190 l191=>aj (kL (af (ai (fun x193=>q_lg (fun l194=>ah (fun n195 l196=>ah (fun n197 l198=>ah (fun n199 l200=>aw (ai (fun x201=>q_lg (fun l202=>ah (fun n203 l204=>ah (fun n205 l206=>ah (fun n207 l208=>aw (cW (fun l209 h210=>ae (fun n211 l212=>aj (aK (af (aq (fun n214=>rfl)) (rfl)))))))))))))))))) (rfl))))))))))))))))))))))))))))))))) (fun j215=>aQ (fun s216 l217 h218=>ae (fun n219 l220=>aj (kL (af (ai (fun x222=>q_lg (fun l223=>ah (fun n224 l225=>ah (fun n226 l227=>ah (fun n228 l229=>aw (ai (fun x230=>q_lg (fun l231=>ah (fun n232 l233=>ah (fun n234 l235=>ah (fun n236 l237=>aw (cW (fun l238 h239=>ae (fun n240 l241=>aj (aK (af (aP (fun n243=>rfl)) (rfl)))))))))))))))))) (rfl))))))))) (fun j244=>aQ (fun s245 l246 h247=>ae (fun n248 l249=>aj (kL (af (ai (fun x251=>q_lg (fun l252=>ah (fun n253 l254=>ah (fun n255 l256=>ah (fun n257 l258=>aw (ai (fun x259=>q_lg (fun l260=>ah (fun n261 l262=>ah (fun n263 l264=>ah (fun n265 l266=>aw (cW (fun l267 h268=>ae (fun n269 l270=>aj (aK (af (aq (fun n272=>rfl)) (rfl)))))))))))))))))) (rfl))))))))))))))))))))))))))))))
theorem ok112{c:aa}(hc:Cok c):Ent 112 (w112 c):=aB (f:=fun A=>f112 A) (ct:=rk) pf112 (congrFun (congrFun e112 RT) HTr) i112 (ak hc aN)
/-- slices.pdqsortCmpFunc[crimp/patterns.Crease] -/
noncomputable def ct81(c:aa):aa:=tblF [(105,w105 c),(108,w108 c),(110,w110 c),(112,w112 c)] c
noncomputable def wr81(c:aa):FB:=f81 (BA ab ac (ct81 c))
noncomputable def w81(c:aa):FB:=wr81 c
theorem ok81{c:aa}(hc:Cok c):Ent 81 (w81 c):=aB (f:=fun A=>f81 A) (ct:=ct81) (fun _ _ _ _=>rfl) (congrFun (congrFun e81 RT) HTr) i81 (ak hc (aC (ok105 hc) (aC (ok108 hc) (aC (ok110 hc) (aC (ok112 hc) aN)))))
/-- slices.SortFunc[[]crimp/patterns.Crease,crimp/patterns.Crease] -/
noncomputable def ct51(c:aa):aa:=tblF [(73,w73 c),(81,w81 c)] c
noncomputable def wr51(c:aa):FB:=f51 (BA ab ac (ct51 c))
noncomputable def w51(c:aa):FB:=wr51 c
theorem ok51{c:aa}(hc:Cok c):Ent 51 (w51 c):=aB (f:=fun A=>f51 A) (ct:=ct51) (fun _ _ _ _=>rfl) (congrFun (congrFun e51 RT) HTr) i51 (ak hc (aC (ok73 hc) (aC (ok81 hc) aN)))
/-- slices.Clip[[]crimp/sheets.Unit,crimp/sheets.Unit] -/
noncomputable def ct85(c:aa):aa:=tblF [] c
noncomputable def b85(c:aa)(a0:Value)(h:HTr)(K:Value→HTr→RT):RT:=optB (lenS a0) (fun O=>optB (lenS a0) (fun U=>optB (slS 2 a0 none (some O) (some U)) (fun J=>chkB J ( K J h))))
noncomputable def wr85(c:aa):FB:=fun ls h K=>rV (fun J O=>r0 (b85 c J h (fun r0 h=>K [.v r0] h)) O) ls
noncomputable def w85(c:aa):FB:=wr85 c
theorem vb85:(fun(c:aa) (a0:Value) (h:HTr) (K:List Lf→HTr→RT)=>w85 c [.v a0] h K)=fun c a0 h K=>b85 c a0 h (fun r0 h=>K [.v r0] h):=by kernel_rfl
theorem qb85{c call:aa}(hct:call (.f 85)=w85 c){a0:Value}{h:HTr}{K:List Lf→HTr→RT}{K':Value→HTr→RT}(hX:∀r0 h,K [.v r0] h=K' r0 h):(BA ab ac call).call 85 [.v a0] h K=bD [.v a0] (b85 c a0 h K'):=by
 obtain rfl:K'=fun r0 h=>K [.v r0] h:=funext fun r0=>funext fun h=>(hX r0 h).symm
 exact fm rfl ((c3 hct _ _ _).trans (c4 vb85 c a0 h K))
theorem pf85(c:aa)(ls:List Lf)(h:HTr)(K:List Lf→HTr→RT):f85 (BA ab ac (ct85 c)) ls h K=wr85 c ls h K:=q_rV (fun x6 l7=>q_r0 (ai (fun x8=>ai (fun x9=>ai (fun x10=>aV (rfl))))))
theorem ok85{c:aa}(hc:Cok c):Ent 85 (w85 c):=aB (f:=fun A=>f85 A) (ct:=ct85) pf85 (congrFun (congrFun e85 RT) HTr) i85 (ak hc aN)
/-- (crimp/sheets.Sheet).all -/
noncomputable def ct113(c:aa):aa:=tblF [] c
noncomputable def b113(c:aa)(a0:Int)(a1:Int)(h:HTr)(K:Value→HTr→RT):RT:=newB (.cells [(.int .i64 a0),(.int .i64 a1)] 2 true) h (fun J O=>chkB (.func (.func 129) ⟨[]⟩ ⟨[(.pointer (some ⟨J,0,none⟩))]⟩) ( K (.func (.func 129) ⟨[]⟩ ⟨[(.pointer (some ⟨J,0,none⟩))]⟩) O))
noncomputable def wr113(c:aa):FB:=fun ls h K=>rI (fun J O=>rI (fun U V=>r0 (b113 c J U h (fun r0 h=>K [.v r0] h)) V) O) ls
noncomputable def w113(c:aa):FB:=wr113 c
theorem vb113:(fun(c:aa) (a0:Int) (a1:Int) (h:HTr) (K:List Lf→HTr→RT)=>w113 c [.i a0,.i a1] h K)=fun c a0 a1 h K=>b113 c a0 a1 h (fun r0 h=>K [.v r0] h):=by kernel_rfl
theorem qb113{c call:aa}(hct:call (.f 113)=w113 c){a0:Int}{a1:Int}{h:HTr}{K:List Lf→HTr→RT}{K':Value→HTr→RT}(hX:∀r0 h,K [.v r0] h=K' r0 h):(BA ab ac call).call 113 [.i a0,.i a1] h K=b113 c a0 a1 h K':=by
 obtain rfl:K'=fun r0 h=>K [.v r0] h:=funext fun r0=>funext fun h=>(hX r0 h).symm
 exact aS rfl ((c3 hct _ _ _).trans (c5 vb113 c a0 a1 h K))
theorem pf113(c:aa)(ls:List Lf)(h:HTr)(K:List Lf→HTr→RT):f113 (BA ab ac (ct113 c)) ls h K=wr113 c ls h K:=q_rI (fun n6 l7=>q_rI (fun n8 l9=>q_r0 (cv (fun m10 h11=>aV (rfl)))))
theorem ok113{c:aa}(hc:Cok c):Ent 113 (w113 c):=aB (f:=fun A=>f113 A) (ct:=ct113) pf113 (congrFun (congrFun e113 RT) HTr) i113 (ak hc aN)
/-- crimp/sheets.Units -/
noncomputable def ct82(c:aa):aa:=tblF [(56,w56 c),(85,w85 c),(113,w113 c)] c
noncomputable def b82(c:aa)(a0:Int)(a1:Int)(h:HTr)(K:Value→Int→HTr→RT):RT:=mc56 c a0 a1 h (fun r_1 U=>cB ( newB (.cells [(.slice none 0 0)] 1 true) U (fun V a2=>b113 c a0 a1 a2 (fun r_2 a3=>pK ab (ct82 c) 1312 r_2 [(.pointer (some ⟨V,0,none⟩))] a3 (fun a4 J=>pendB a4 ( lgB cc 1 (.pointer (some ⟨V,0,none⟩)) J (fun a5=>ucVB a5 (fun O a6=>chkB O ( uc0B a6 ( bD [.v O] (b85 c O J (fun r_3 a7=>K r_3 (.ofNat (nat_lit 0)) a7))))))) ( K (.slice none 0 0) (.ofNat (nat_lit 0)) J) [])))) ( K (.slice none 0 0) r_1 U) (notK (eqZK r_1 (.ofNat (nat_lit 0)))))
noncomputable def wr82(c:aa):FB:=fun ls h K=>rI (fun J O=>rI (fun U V=>r0 (b82 c J U h (fun r0 a0 h=>K [.v r0,.i a0] h)) V) O) ls
noncomputable def w82(c:aa):FB:=wr82 c
theorem vb82:(fun(c:aa) (a0:Int) (a1:Int) (h:HTr) (K:List Lf→HTr→RT)=>w82 c [.i a0,.i a1] h K)=fun c a0 a1 h K=>b82 c a0 a1 h (fun r0 r1 h=>K [.v r0,.i r1] h):=by kernel_rfl
theorem qb82{c call:aa}(hct:call (.f 82)=w82 c){a0:Int}{a1:Int}{h:HTr}{K:List Lf→HTr→RT}{K':Value→Int→HTr→RT}(hX:∀r0 r1 h,K [.v r0,.i r1] h=K' r0 r1 h):(BA ab ac call).call 82 [.i a0,.i a1] h K=b82 c a0 a1 h K':=by
 obtain rfl:K'=fun r0 r1 h=>K [.v r0,.i r1] h:=funext fun r0=>funext fun r1=>funext fun h=>(hX r0 r1 h).symm
 exact aS rfl ((c3 hct _ _ _).trans (c5 vb82 c a0 a1 h K))
theorem pf82(c:aa)(ls:List Lf)(h:HTr)(K:List Lf→HTr→RT):f82 (BA ab ac (ct82 c)) ls h K=wr82 c ls h K:=q_rI (fun n6 l7=>q_rI (fun n8 l9=>q_r0 (qm56 rfl (fun l10 h11=>ae (fun n12 l13=>aj (bv (af (rfl) (cv (fun m15 h16=>qb113 rfl (fun r_2 h18=>de (bP (q_rfun (fun p21 h22=>q_pend (q_lg (fun l23=>cN (fun x24 l25=>aV (aw (qb85 rfl (fun r_3 h27=>de (bP (rfl)))))))) (rfl) rfl)))))))))))))
theorem ok82{c:aa}(hc:Cok c):Ent 82 (w82 c):=aB (f:=fun A=>f82 A) (ct:=ct82) pf82 (congrFun (congrFun e82 RT) HTr) i82 (ak hc (aC (ok56 hc) (aC (ok85 hc) (aC (ok113 hc) aN))))
/-- crimp/cells.Corners -/
noncomputable def ct87(c:aa):aa:=tblF [(79,w79 c)] c
noncomputable def b87(c:aa)(a0:Int)(a1:Int)(a2:Int)(h:HTr)(K:Int→Int→Int→Int→Int→Int→Int→HTr→RT):RT:=mc79 c a0 a1 a2 h (fun r_1 J=>cB ( optB (inB 4 a2) (fun h5=>optB (kK gl2 0 [(a2,17)] 17) (fun U=>ucIB .i64 U (fun n19 V=>ucIB .i64 V (fun n21 a3=>ucIB .u8 a3 (fun n23 a4=>ucIB .i64 a4 (fun n25 a5=>ucIB .i64 a5 (fun n27 a6=>ucIB .i64 a6 (fun n29 a7=>ucIB .u8 a7 (fun n31 a8=>ucIB .i64 a8 (fun n33 a9=>ucIB .i64 a9 (fun n35 b0=>ucIB .u8 b0 (fun n37 b1=>ucIB .i64 b1 (fun n39 b2=>ucIB .i64 b2 (fun n41 b3=>ucIB .u8 b3 (fun n43 b4=>ucIB .i64 b4 (fun n45 b6=>ucIB .i64 b6 (fun n47 b7=>ucIB .i64 b7 (fun n49 b8=>ucIB .i64 b8 (fun n51 b9=>uc0B b9 ( bk (fun c0 c1 O=>unIB c1 (fun n56 d0=>unIB d0 (fun n58 d1=>unIB d1 (fun n60 d2=>unIB d2 (fun n62 d3=>unIB d3 (fun n64 d4=>unIB d4 (fun n66 d5=>unIB d5 (fun n68 d6=>un0B d6 (cB ( K n58 n60 n62 n64 n66 n68 (.ofNat (nat_lit 0)) O) ( optB (inB 3 n56) (fun h6=>optB (bo [(.i n58),(.i n60),(.i n62),(.i n64),(.i n66),(.i n68)] 0 [(n56,2)] 1) (fun d7=>unIB d7 (fun n73 d8=>un0B d8 (mulK (.ofNat (nat_lit 2)) a0 (fun c_=>al c_ (fun n75=>addK n73 n75 (fun c_=>al c_ (fun n76=>optB (inB 3 n56) (fun h7=>optB (putL [(.i n58),(.i n60),(.i n62),(.i n64),(.i n66),(.i n68)] 0 [(n56,2)] [(.i n76)]) (fun d9=>unIB d9 (fun n79 e0=>unIB e0 (fun n81 e1=>unIB e1 (fun n83 e2=>unIB e2 (fun n85 f0=>unIB f0 (fun n87 f1=>unIB f1 (fun n89 f2=>un0B f2 (optB (inB 3 n56) (fun h8=>optB (bo [(.i n79),(.i n81),(.i n83),(.i n85),(.i n87),(.i n89)] 1 [(n56,2)] 1) (fun gl=>unIB gl (fun n93 g0=>un0B g0 (mulK (.ofNat (nat_lit 2)) a1 (fun c_=>al c_ (fun g1=>addK n93 g1 (fun c_=>al c_ (fun g2=>optB (inB 3 n56) (fun h9=>optB (putL [(.i n79),(.i n81),(.i n83),(.i n85),(.i n87),(.i n89)] 1 [(n56,2)] [(.i g2)]) (fun g3=>unIB g3 (fun g4 g5=>unIB g5 (fun g6 g7=>unIB g7 (fun n103 g8=>unIB g8 (fun n105 g9=>unIB g9 (fun h0 h1=>unIB h1 (fun h2 h3=>un0B h3 (addK n56 (.ofNat (nat_lit 1)) (fun c_=>al c_ (fun h4=>c0 [.i h4,.i g4,.i g6,.i n103,.i n105,.i h0,.i h2] O))))))))))))))))))))))))))))))))))))) (notK (leZ (.ofNat (nat_lit 3)) n56))))))))))) [.i (.ofNat (nat_lit 0)),.i (.ofNat (nat_lit 1)),.i (.ofNat (nat_lit 1)),.i n45,.i n47,.i n49,.i n51] J))))))))))))))))))))) ( K (.ofNat (nat_lit 0)) (.ofNat (nat_lit 0)) (.ofNat (nat_lit 0)) (.ofNat (nat_lit 0)) (.ofNat (nat_lit 0)) (.ofNat (nat_lit 0)) (.ofNat (nat_lit 1)) J) (notK (eqZK r_1 (.ofNat (nat_lit 0)))))
noncomputable def wr87(c:aa):FB:=fun ls h K=>rI (fun J O=>rI (fun U V=>rI (fun a0 a1=>r0 (b87 c J U a0 h (fun r0 a2 a3 a4 a5 a6 a7 h=>K [.i r0,.i a2,.i a3,.i a4,.i a5,.i a6,.i a7] h)) a1) V) O) ls
noncomputable abbrev kC(K:Int→Int→Int→Int→Int→Int→Int→HTr→RT)(rs:List Lf)(h:HTr):RT:=unIB rs fun r0 J=>unIB J fun O U=>unIB U fun V a0=>unIB a0 fun a1 a2=>unIB a2 fun a3 a4=>unIB a4 fun a5 a6=>unIB a6 fun a7 a8=>un0B a8 (K r0 O V a1 a3 a5 a7 h)
noncomputable def w87(c:aa):FB:=memo (wr87 c)
noncomputable def mc87(c:aa)(J:Int)(O:Int)(U:Int)(h:HTr)(K:Int→Int→Int→Int→Int→Int→Int→HTr→RT):RT:=fI J fun J=>fI O fun O=>fI U fun U=>@Option.rec _ (fun _=>RT) none (fun rs=>kC K rs h) (b87 c J O U .empty (fun r0 V a0 a1 a2 a3 a4 h=>tell [.i r0,.i V,.i a0,.i a1,.i a2,.i a3,.i a4] h))
theorem vm87:(fun(c:aa) (a0:Int) (a1:Int) (a2:Int) (h:HTr) (K:Int→Int→Int→Int→Int→Int→Int→HTr→RT)=>w87 c [.i a0,.i a1,.i a2] h (kC K))=fun c a0 a1 a2 h K=>mc87 c a0 a1 a2 h K:=by kernel_rfl
theorem qm87{c call:aa}(hct:call (.f 87)=w87 c){a0:Int}{a1:Int}{a2:Int}{h:HTr}{K:List Lf→HTr→RT}{K':Int→Int→Int→Int→Int→Int→Int→HTr→RT}(hX:∀rs h,K rs h=kC K' rs h):(BA ab ac call).call 87 [.i a0,.i a1,.i a2] h K=mc87 c a0 a1 a2 h K':=by
 obtain rfl:=fx hX
 exact aS rfl ((c3 hct _ _ _).trans (c6 vm87 c a0 a1 a2 h K'))
theorem pf87(c:aa)(ls:List Lf)(h:HTr)(K:List Lf→HTr→RT):f87 (BA ab ac (ct87 c)) ls h K=wr87 c ls h K:=q_rI (fun n6 l7=>q_rI (fun n8 l9=>q_rI (fun n10 l11=>q_r0 (qm79 rfl (fun l12 h13=>ae (fun n14 l15=>aj (bv (af (rfl) (ai (fun x17=>ai (fun x18=>ah (fun n19 l20=>ah (fun n21 l22=>ah (fun n23 l24=>ah (fun n25 l26=>ah (fun n27 l28=>ah (fun n29 l30=>ah (fun n31 l32=>ah (fun n33 l34=>ah (fun n35 l36=>ah (fun n37 l38=>ah (fun n39 l40=>ah (fun n41 l42=>ah (fun n43 l44=>ah (fun n45 l46=>ah (fun n47 l48=>ah (fun n49 l50=>ah (fun n51 l52=>aw (aQ (fun s53 l54 h55=>ae (fun n56 l57=>ae (fun n58 l59=>ae (fun n60 l61=>ae (fun n62 l63=>ae (fun n64 l65=>ae (fun n66 l67=>ae (fun n68 l69=>aj (aK (af (ai (fun x71=>ai (fun x72=>ae (fun n73 l74=>aj (aH (fun n75=>aq (fun n76=>ai (fun x77=>ai (fun x78=>ae (fun n79 l80=>ae (fun n81 l82=>ae (fun n83 l84=>ae (fun n85 l86=>ae (fun n87 l88=>ae (fun n89 l90=>aj (ai (fun x91=>ai (fun x92=>ae (fun n93 l94=>aj (aH (fun n95=>aq (fun n96=>ai (fun x97=>ai (fun x98=>ae (fun n99 l100=>ae (fun n101 l102=>ae (fun n103 l104=>ae (fun n105 l106=>ae (fun n107 l108=>ae (fun n109 l110=>aj (aq (fun n111=>rfl)))))))))))))))))))))))))))))))) (rfl))))))))))))))))))))))))))))))))))))))))
theorem ok87{c:aa}(hc:Cok c):Ent 87 (w87 c):=aA (aB (f:=fun A=>f87 A) (ct:=ct87) pf87 (congrFun (congrFun e87 RT) HTr) i87 (ak hc (aC (ok79 hc) aN))) rfl (by kernel_rfl)
/-- crimp/sheets.named -/
noncomputable def ct118(c:aa):aa:=tblF [(50,w50 c),(56,w56 c),(78,w78 c)] c
noncomputable def b118(c:aa)(a0:Int)(a1:Int)(a2:Int)(a3:Int)(h:HTr)(K:Int→Int→Int→Int→HTr→RT):RT:=mc56 c a0 a1 h (fun r_1 O=>cB ( mc50 c a0 a1 a2 a3 O (fun r_2 r_3 r_4 J=>cB ( cB ( mc78 c a0 a1 a2 J (fun r_5 r_6 r_7 U=>K r_5 r_6 r_7 (.ofNat (nat_lit 0)) U)) ( K (.ofNat (nat_lit 0)) (.ofNat (nat_lit 0)) (.ofNat (nat_lit 0)) (.ofNat (nat_lit 7)) J) (!(@Bool.rec (fun _=>Bool) false (@Bool.rec (fun _=>Bool) false true (eqZK r_3 a3)) (eqZK r_2 a2)))) ( K (.ofNat (nat_lit 0)) (.ofNat (nat_lit 0)) (.ofNat (nat_lit 0)) (.ofNat (nat_lit 7)) J) (notK (eqZK r_4 (.ofNat (nat_lit 0)))))) ( K (.ofNat (nat_lit 0)) (.ofNat (nat_lit 0)) (.ofNat (nat_lit 0)) r_1 O) (notK (eqZK r_1 (.ofNat (nat_lit 0)))))
noncomputable def wr118(c:aa):FB:=fun ls h K=>rI (fun J O=>rI (fun U V=>rI (fun a0 a1=>rI (fun a2 a3=>r0 (b118 c J U a0 a2 h (fun r0 a4 a5 a6 h=>K [.i r0,.i a4,.i a5,.i a6] h)) a3) a1) V) O) ls
noncomputable def w118(c:aa):FB:=memo (wr118 c)
noncomputable def mc118(c:aa)(J:Int)(O:Int)(U:Int)(V:Int)(h:HTr)(K:Int→Int→Int→Int→HTr→RT):RT:=fI J fun J=>fI O fun O=>fI U fun U=>fI V fun V=>@Option.rec _ (fun _=>RT) none (fun rs=>dN K rs h) (b118 c J O U V .empty (fun r0 a0 a1 a2 h=>tell [.i r0,.i a0,.i a1,.i a2] h))
theorem vm118:(fun(c:aa) (a0:Int) (a1:Int) (a2:Int) (a3:Int) (h:HTr) (K:Int→Int→Int→Int→HTr→RT)=>w118 c [.i a0,.i a1,.i a2,.i a3] h (dN K))=fun c a0 a1 a2 a3 h K=>mc118 c a0 a1 a2 a3 h K:=by kernel_rfl
theorem qm118{c call:aa}(hct:call (.f 118)=w118 c){a0:Int}{a1:Int}{a2:Int}{a3:Int}{h:HTr}{K:List Lf→HTr→RT}{K':Int→Int→Int→Int→HTr→RT}(hX:∀rs h,K rs h=dN K' rs h):(BA ab ac call).call 118 [.i a0,.i a1,.i a2,.i a3] h K=mc118 c a0 a1 a2 a3 h K':=by
 obtain rfl:=fx hX
 exact aS rfl ((c3 hct _ _ _).trans (c7 vm118 c a0 a1 a2 a3 h K'))
theorem pf118(c:aa)(ls:List Lf)(h:HTr)(K:List Lf→HTr→RT):f118 (BA ab ac (ct118 c)) ls h K=wr118 c ls h K:=q_rI (fun n6 l7=>q_rI (fun n8 l9=>q_rI (fun n10 l11=>q_rI (fun n12 l13=>q_r0 (qm56 rfl (fun l14 h15=>ae (fun n16 l17=>aj (bv (af (rfl) (qm50 rfl (fun l19 h20=>ae (fun n21 l22=>ae (fun n23 l24=>ae (fun n25 l26=>aj (bv (af (rfl) (eO (af (rfl) (qm78 rfl (fun l29 h30=>ae (fun n31 l32=>ae (fun n33 l34=>ae (fun n35 l36=>aj (rfl))))))))))))))))))))))))
theorem ok118{c:aa}(hc:Cok c):Ent 118 (w118 c):=aA (aB (f:=fun A=>f118 A) (ct:=ct118) pf118 (congrFun (congrFun e118 RT) HTr) i118 (ak hc (aC (ok50 hc) (aC (ok56 hc) (aC (ok78 hc) aN))))) rfl (by kernel_rfl)
/-- crimp/sheets.Ends -/
noncomputable def ct88(c:aa):aa:=tblF [(87,w87 c),(118,w118 c)] c
noncomputable def b88(c:aa)(a0:Int)(a1:Int)(a2:Int)(a3:Int)(h:HTr)(K:Int→Int→Int→Int→Int→HTr→RT):RT:=mc118 c a0 a1 a2 a3 h (fun r_1 r_2 r_3 r_4 O=>cB ( mc87 c r_1 r_2 r_3 O (fun r_5 r_6 r_7 r_8 r_9 r_10 r_11 J=>addK a3 (.ofNat (nat_lit 1)) (fun c_=>em c_ (fun n41=>@Bool.rec (fun _=>RT) (remK n41 (.ofNat (nat_lit 3)) (fun n42=>optB (inB 3 n42) (fun b6=>optB (bo [(.i r_5),(.i r_6),(.i r_7),(.i r_8),(.i r_9),(.i r_10)] 0 [(n42,2)] 2) (fun V=>unIB V (fun n45 a4=>unIB a4 (fun n47 a5=>un0B a5 (addK a3 (.ofNat (nat_lit 2)) (fun c_=>em c_ (fun n49=>@Bool.rec (fun _=>RT) (remK n49 (.ofNat (nat_lit 3)) (fun n50=>optB (inB 3 n50) (fun b7=>optB (bo [(.i r_5),(.i r_6),(.i r_7),(.i r_8),(.i r_9),(.i r_10)] 0 [(n50,2)] 2) (fun a6=>unIB a6 (fun n53 a7=>unIB a7 (fun n55 a8=>un0B a8 (cB ( cB ( K n45 n47 n53 n55 (.ofNat (nat_lit 0)) J) ( bh (fun a9 b0=>unIB a9 (fun n62 b1=>unIB b1 (fun n64 b2=>unIB b2 (fun n66 b3=>unIB b3 (fun n68 b4=>un0B b4 (K n62 n64 n66 n68 (.ofNat (nat_lit 0)) b0)))))) (fun U=>cB ( U [.i n45,.i n47,.i n53,.i n55] J) ( U [.i n53,.i n55,.i n45,.i n47] J) (notK (leZ n47 n55)))) (eqZK n53 n45)) ( K n53 n55 n45 n47 (.ofNat (nat_lit 0)) J) (notK (leZ n45 n53))))))))) none (isZ (.ofNat (nat_lit 3)))))))))))) none (isZ (.ofNat (nat_lit 3))))))) ( K (.ofNat (nat_lit 0)) (.ofNat (nat_lit 0)) (.ofNat (nat_lit 0)) (.ofNat (nat_lit 0)) r_4 O) (notK (eqZK r_4 (.ofNat (nat_lit 0)))))
noncomputable def wr88(c:aa):FB:=fun ls h K=>rI (fun J O=>rI (fun U V=>rI (fun a0 a1=>rI (fun a2 a3=>r0 (b88 c J U a0 a2 h (fun r0 a4 a5 a6 a7 h=>K [.i r0,.i a4,.i a5,.i a6,.i a7] h)) a3) a1) V) O) ls
noncomputable abbrev pV(K:Int→Int→Int→Int→Int→HTr→RT)(rs:List Lf)(h:HTr):RT:=unIB rs fun r0 J=>unIB J fun O U=>unIB U fun V a0=>unIB a0 fun a1 a2=>unIB a2 fun a3 a4=>un0B a4 (K r0 O V a1 a3 h)
noncomputable def w88(c:aa):FB:=memo (wr88 c)
noncomputable def mc88(c:aa)(J:Int)(O:Int)(U:Int)(V:Int)(h:HTr)(K:Int→Int→Int→Int→Int→HTr→RT):RT:=fI J fun J=>fI O fun O=>fI U fun U=>fI V fun V=>@Option.rec _ (fun _=>RT) none (fun rs=>pV K rs h) (b88 c J O U V .empty (fun r0 a0 a1 a2 a3 h=>tell [.i r0,.i a0,.i a1,.i a2,.i a3] h))
theorem vm88:(fun(c:aa) (a0:Int) (a1:Int) (a2:Int) (a3:Int) (h:HTr) (K:Int→Int→Int→Int→Int→HTr→RT)=>w88 c [.i a0,.i a1,.i a2,.i a3] h (pV K))=fun c a0 a1 a2 a3 h K=>mc88 c a0 a1 a2 a3 h K:=by kernel_rfl
theorem qm88{c call:aa}(hct:call (.f 88)=w88 c){a0:Int}{a1:Int}{a2:Int}{a3:Int}{h:HTr}{K:List Lf→HTr→RT}{K':Int→Int→Int→Int→Int→HTr→RT}(hX:∀rs h,K rs h=pV K' rs h):(BA ab ac call).call 88 [.i a0,.i a1,.i a2,.i a3] h K=mc88 c a0 a1 a2 a3 h K':=by
 obtain rfl:=fx hX
 exact aS rfl ((c3 hct _ _ _).trans (c7 vm88 c a0 a1 a2 a3 h K'))
theorem pf88(c:aa)(ls:List Lf)(h:HTr)(K:List Lf→HTr→RT):f88 (BA ab ac (ct88 c)) ls h K=wr88 c ls h K:=q_rI (fun n6 l7=>q_rI (fun n8 l9=>q_rI (fun n10 l11=>q_rI (fun n12 l13=>q_r0 (qm118 rfl (fun l14 h15=>ae (fun n16 l17=>ae (fun n18 l19=>ae (fun n20 l21=>ae (fun n22 l23=>aj (bv (af (rfl) (qm87 rfl (fun l25 h26=>ae (fun n27 l28=>ae (fun n29 l30=>ae (fun n31 l32=>ae (fun n33 l34=>ae (fun n35 l36=>ae (fun n37 l38=>ae (fun n39 l40=>aj (dl (fun n41=>cw (fun n42=>ai (fun x43=>ai (fun x44=>ae (fun n45 l46=>ae (fun n47 l48=>aj (dl (fun n49=>cw (fun n50=>ai (fun x51=>ai (fun x52=>ae (fun n53 l54=>ae (fun n55 l56=>aj (aK (af (rfl) (bt (af (aK (aO (fun l60 h61=>ae (fun n62 l63=>ae (fun n64 l65=>ae (fun n66 l67=>ae (fun n68 l69=>aj (rfl)))))) (fun j70=>af (rfl) (rfl)))) (rfl))))))))))))))))))))))))))))))))))))))))
theorem ok88{c:aa}(hc:Cok c):Ent 88 (w88 c):=aA (aB (f:=fun A=>f88 A) (ct:=ct88) pf88 (congrFun (congrFun e88 RT) HTr) i88 (ak hc (aC (ok87 hc) (aC (ok118 hc) aN)))) rfl (by kernel_rfl)
/-- crimp/lines.Check -/
noncomputable def ct116(c:aa):aa:=tblF [] c
noncomputable def b116(c:aa)(a0:Int)(a1:Int)(h:HTr)(K:Int→HTr→RT):RT:=cB ( cB ( cB ( cB ( K (.ofNat (nat_lit 0)) h) ( K (.ofNat (nat_lit 1)) h) (notK (leZ a1 (.ofNat (nat_lit 4096))))) ( K (.ofNat (nat_lit 1)) h) (notK (leZ (.negSucc (nat_lit 4095)) a1))) ( K (.ofNat (nat_lit 1)) h) (notK (leZ a0 (.ofNat (nat_lit 4))))) ( K (.ofNat (nat_lit 1)) h) (notK (leZ (.ofNat (nat_lit 1)) a0))
noncomputable def wr116(c:aa):FB:=fun ls h K=>rI (fun J O=>rI (fun U V=>r0 (b116 c J U h (fun r0 h=>K [.i r0] h)) V) O) ls
noncomputable def w116(c:aa):FB:=memo (wr116 c)
noncomputable def mc116(c:aa)(J:Int)(O:Int)(h:HTr)(K:Int→HTr→RT):RT:=fI J fun J=>fI O fun O=>@Option.rec _ (fun _=>RT) none (fun rs=>u_i K rs h) (b116 c J O .empty (fun r0 h=>tell [.i r0] h))
theorem vm116:(fun(c:aa) (a0:Int) (a1:Int) (h:HTr) (K:Int→HTr→RT)=>w116 c [.i a0,.i a1] h (u_i K))=fun c a0 a1 h K=>mc116 c a0 a1 h K:=by kernel_rfl
theorem qm116{c call:aa}(hct:call (.f 116)=w116 c){a0:Int}{a1:Int}{h:HTr}{K:List Lf→HTr→RT}{K':Int→HTr→RT}(hX:∀rs h,K rs h=u_i K' rs h):(BA ab ac call).call 116 [.i a0,.i a1] h K=mc116 c a0 a1 h K':=by
 obtain rfl:=fx hX
 exact aS rfl ((c3 hct _ _ _).trans (c5 vm116 c a0 a1 h K'))
theorem pf116(c:aa)(ls:List Lf)(h:HTr)(K:List Lf→HTr→RT):f116 (BA ab ac (ct116 c)) ls h K=wr116 c ls h K:=q_rI (fun n6 l7=>q_rI (fun n8 l9=>q_r0 (aK (af (rfl) (bu (af (rfl) (aK (af (rfl) (bu (af (rfl) (rfl)))))))))))
theorem ok116{c:aa}(hc:Cok c):Ent 116 (w116 c):=aA (aB (f:=fun A=>f116 A) (ct:=ct116) pf116 (congrFun (congrFun e116 RT) HTr) i116 (ak hc aN)) rfl (by kernel_rfl)
/-- crimp/cells.Line -/
noncomputable def ct131(c:aa):aa:=tblF [(79,w79 c),(116,w116 c)] c
noncomputable def b131(c:aa)(a0:Int)(a1:Int)(a2:Int)(a3:Int)(h:HTr)(K:Int→Int→Int→HTr→RT):RT:=mc79 c a0 a1 a2 h (fun r_1 J=>cB ( cB ( optB (inB 4 a2) (fun f1=>optB (kK gl2 0 [(a2,17)] 17) (fun a5=>ucIB .i64 a5 (fun n22 a6=>ucIB .i64 a6 (fun n24 a7=>ucIB .u8 a7 (fun n26 a8=>ucIB .i64 a8 (fun n28 a9=>ucIB .i64 a9 (fun n30 b0=>ucIB .i64 b0 (fun n32 b1=>ucIB .u8 b1 (fun n34 b2=>ucIB .i64 b2 (fun n36 b3=>ucIB .i64 b3 (fun n38 b4=>ucIB .u8 b4 (fun n40 b6=>ucIB .i64 b6 (fun n42 b7=>ucIB .i64 b7 (fun n44 b8=>ucIB .u8 b8 (fun n46 b9=>ucIB .i64 b9 (fun n48 c0=>ucIB .i64 c0 (fun n50 c1=>ucIB .i64 c1 (fun n52 d0=>ucIB .i64 d0 (fun n54 d1=>uc0B d1 ( addK a0 n28 (fun c_=>al c_ (fun n56=>bh (fun d2 d3=>unIB d2 (fun n60 d4=>unIB d4 (fun n62 d5=>un0B d5 (mc116 c n60 n62 d3 (fun r_2 O=>cB ( K n60 n62 (.ofNat (nat_lit 0)) O) ( K (.ofNat (nat_lit 0)) (.ofNat (nat_lit 0)) (.ofNat (nat_lit 3)) O) (notK (eqZK r_2 (.ofNat (nat_lit 0))))))))) (fun U=>cB ( bh (fun d6 d7=>unIB d6 (fun n75 d8=>unIB d8 (fun n77 d9=>un0B d9 (U [.i n75,.i n77] d7)))) (fun V=>cB ( bh (fun e0 e1=>unIB e0 (fun n84 e2=>unIB e2 (fun n86 f0=>un0B f0 (V [.i n84,.i n86] e1)))) (fun a4=>cB ( a4 [.i n26,.i n56] J) ( addK a1 n28 (fun c_=>al c_ (fun n89=>a4 [.i n26,.i n89] J))) (eqZK n26 (.ofNat (nat_lit 2))))) ( subK a1 a0 (fun c_=>al c_ (fun n80=>V [.i (.ofNat (nat_lit 4)),.i n80] J))) (eqZK a3 (.ofNat (nat_lit 2))))) ( addK a0 a1 (fun c_=>al c_ (fun n70=>addK n70 (.ofNat (nat_lit 1)) (fun c_=>al c_ (fun n71=>U [.i (.ofNat (nat_lit 3)),.i n71] J))))) (eqZK a3 (.ofNat (nat_lit 1))))))))))))))))))))))))))) ( K (.ofNat (nat_lit 0)) (.ofNat (nat_lit 0)) (.ofNat (nat_lit 1)) J) (notK (leZ a3 (.ofNat (nat_lit 2))))) ( K (.ofNat (nat_lit 0)) (.ofNat (nat_lit 0)) (.ofNat (nat_lit 1)) J) (notK (eqZK r_1 (.ofNat (nat_lit 0)))))
noncomputable def wr131(c:aa):FB:=fun ls h K=>rI (fun J O=>rI (fun U V=>rI (fun a0 a1=>rI (fun a2 a3=>r0 (b131 c J U a0 a2 h (fun r0 a4 a5 h=>K [.i r0,.i a4,.i a5] h)) a3) a1) V) O) ls
noncomputable def w131(c:aa):FB:=memo (wr131 c)
noncomputable def mc131(c:aa)(J:Int)(O:Int)(U:Int)(V:Int)(h:HTr)(K:Int→Int→Int→HTr→RT):RT:=fI J fun J=>fI O fun O=>fI U fun U=>fI V fun V=>@Option.rec _ (fun _=>RT) none (fun rs=>eP K rs h) (b131 c J O U V .empty (fun r0 a0 a1 h=>tell [.i r0,.i a0,.i a1] h))
theorem vm131:(fun(c:aa) (a0:Int) (a1:Int) (a2:Int) (a3:Int) (h:HTr) (K:Int→Int→Int→HTr→RT)=>w131 c [.i a0,.i a1,.i a2,.i a3] h (eP K))=fun c a0 a1 a2 a3 h K=>mc131 c a0 a1 a2 a3 h K:=by kernel_rfl
theorem qm131{c call:aa}(hct:call (.f 131)=w131 c){a0:Int}{a1:Int}{a2:Int}{a3:Int}{h:HTr}{K:List Lf→HTr→RT}{K':Int→Int→Int→HTr→RT}(hX:∀rs h,K rs h=eP K' rs h):(BA ab ac call).call 131 [.i a0,.i a1,.i a2,.i a3] h K=mc131 c a0 a1 a2 a3 h K':=by
 obtain rfl:=fx hX
 exact aS rfl ((c3 hct _ _ _).trans (c7 vm131 c a0 a1 a2 a3 h K'))
theorem pf131(c:aa)(ls:List Lf)(h:HTr)(K:List Lf→HTr→RT):f131 (BA ab ac (ct131 c)) ls h K=wr131 c ls h K:=q_rI (fun n6 l7=>q_rI (fun n8 l9=>q_rI (fun n10 l11=>q_rI (fun n12 l13=>q_r0 (qm79 rfl (fun l14 h15=>ae (fun n16 l17=>aj (bv (af (rfl) (bu (af (rfl) (ai (fun x20=>ai (fun x21=>ah (fun n22 l23=>ah (fun n24 l25=>ah (fun n26 l27=>ah (fun n28 l29=>ah (fun n30 l31=>ah (fun n32 l33=>ah (fun n34 l35=>ah (fun n36 l37=>ah (fun n38 l39=>ah (fun n40 l41=>ah (fun n42 l43=>ah (fun n44 l45=>ah (fun n46 l47=>ah (fun n48 l49=>ah (fun n50 l51=>ah (fun n52 l53=>ah (fun n54 l55=>aw (aq (fun n56=>bt (aO (fun l58 h59=>ae (fun n60 l61=>ae (fun n62 l63=>aj (qm116 rfl (fun l64 h65=>ae (fun n66 l67=>aj (bv (af (rfl) (rfl))))))))) (fun j69=>af (aq (fun n70=>aq (fun n71=>rfl))) (bt (aO (fun l73 h74=>ae (fun n75 l76=>ae (fun n77 l78=>aj (rfl)))) (fun j79=>af (aP (fun n80=>rfl)) (bt (aO (fun l82 h83=>ae (fun n84 l85=>ae (fun n86 l87=>aj (rfl)))) (fun j88=>af (aq (fun n89=>rfl)) (rfl))))))))))))))))))))))))))))))))))))))))))
theorem ok131{c:aa}(hc:Cok c):Ent 131 (w131 c):=aA (aB (f:=fun A=>f131 A) (ct:=ct131) pf131 (congrFun (congrFun e131 RT) HTr) i131 (ak hc (aC (ok79 hc) (aC (ok116 hc) aN)))) rfl (by kernel_rfl)
/-- crimp/sheets.Line -/
noncomputable def ct114(c:aa):aa:=tblF [(118,w118 c),(131,w131 c)] c
noncomputable def b114(c:aa)(a0:Int)(a1:Int)(a2:Int)(a3:Int)(h:HTr)(K:Int→Int→Int→HTr→RT):RT:=mc118 c a0 a1 a2 a3 h (fun r_1 r_2 r_3 r_4 J=>cB ( mc131 c r_1 r_2 r_3 a3 J (fun r_5 r_6 r_7 O=>K r_5 r_6 r_7 O)) ( K (.ofNat (nat_lit 0)) (.ofNat (nat_lit 0)) r_4 J) (notK (eqZK r_4 (.ofNat (nat_lit 0)))))
noncomputable def wr114(c:aa):FB:=fun ls h K=>rI (fun J O=>rI (fun U V=>rI (fun a0 a1=>rI (fun a2 a3=>r0 (b114 c J U a0 a2 h (fun r0 a4 a5 h=>K [.i r0,.i a4,.i a5] h)) a3) a1) V) O) ls
noncomputable def w114(c:aa):FB:=memo (wr114 c)
noncomputable def mc114(c:aa)(J:Int)(O:Int)(U:Int)(V:Int)(h:HTr)(K:Int→Int→Int→HTr→RT):RT:=fI J fun J=>fI O fun O=>fI U fun U=>fI V fun V=>@Option.rec _ (fun _=>RT) none (fun rs=>eP K rs h) (b114 c J O U V .empty (fun r0 a0 a1 h=>tell [.i r0,.i a0,.i a1] h))
theorem vm114:(fun(c:aa) (a0:Int) (a1:Int) (a2:Int) (a3:Int) (h:HTr) (K:Int→Int→Int→HTr→RT)=>w114 c [.i a0,.i a1,.i a2,.i a3] h (eP K))=fun c a0 a1 a2 a3 h K=>mc114 c a0 a1 a2 a3 h K:=by kernel_rfl
theorem qm114{c call:aa}(hct:call (.f 114)=w114 c){a0:Int}{a1:Int}{a2:Int}{a3:Int}{h:HTr}{K:List Lf→HTr→RT}{K':Int→Int→Int→HTr→RT}(hX:∀rs h,K rs h=eP K' rs h):(BA ab ac call).call 114 [.i a0,.i a1,.i a2,.i a3] h K=mc114 c a0 a1 a2 a3 h K':=by
 obtain rfl:=fx hX
 exact aS rfl ((c3 hct _ _ _).trans (c7 vm114 c a0 a1 a2 a3 h K'))
theorem pf114(c:aa)(ls:List Lf)(h:HTr)(K:List Lf→HTr→RT):f114 (BA ab ac (ct114 c)) ls h K=wr114 c ls h K:=q_rI (fun n6 l7=>q_rI (fun n8 l9=>q_rI (fun n10 l11=>q_rI (fun n12 l13=>q_r0 (qm118 rfl (fun l14 h15=>ae (fun n16 l17=>ae (fun n18 l19=>ae (fun n20 l21=>ae (fun n22 l23=>aj (bv (af (rfl) (qm131 rfl (fun l25 h26=>ae (fun n27 l28=>ae (fun n29 l30=>ae (fun n31 l32=>aj (rfl))))))))))))))))))
theorem ok114{c:aa}(hc:Cok c):Ent 114 (w114 c):=aA (aB (f:=fun A=>f114 A) (ct:=ct114) pf114 (congrFun (congrFun e114 RT) HTr) i114 (ak hc (aC (ok118 hc) (aC (ok131 hc) aN)))) rfl (by kernel_rfl)
/-- crimp/segments.place -/
noncomputable def ct115(c:aa):aa:=tblF [] c
noncomputable def b115(c:aa)(a0:Int)(a1:Int)(a2:Int)(h:HTr)(K:Int→HTr→RT):RT:=cB ( K a1 h) ( K a2 h) (eqZK a0 (.ofNat (nat_lit 1)))
noncomputable def wr115(c:aa):FB:=fun ls h K=>rI (fun J O=>rI (fun U V=>rI (fun a0 a1=>r0 (b115 c J U a0 h (fun r0 h=>K [.i r0] h)) a1) V) O) ls
noncomputable def w115(c:aa):FB:=memo (wr115 c)
noncomputable def mc115(c:aa)(J:Int)(O:Int)(U:Int)(h:HTr)(K:Int→HTr→RT):RT:=fI J fun J=>fI O fun O=>fI U fun U=>@Option.rec _ (fun _=>RT) none (fun rs=>u_i K rs h) (b115 c J O U .empty (fun r0 h=>tell [.i r0] h))
theorem vm115:(fun(c:aa) (a0:Int) (a1:Int) (a2:Int) (h:HTr) (K:Int→HTr→RT)=>w115 c [.i a0,.i a1,.i a2] h (u_i K))=fun c a0 a1 a2 h K=>mc115 c a0 a1 a2 h K:=by kernel_rfl
theorem qm115{c call:aa}(hct:call (.f 115)=w115 c){a0:Int}{a1:Int}{a2:Int}{h:HTr}{K:List Lf→HTr→RT}{K':Int→HTr→RT}(hX:∀rs h,K rs h=u_i K' rs h):(BA ab ac call).call 115 [.i a0,.i a1,.i a2] h K=mc115 c a0 a1 a2 h K':=by
 obtain rfl:=fx hX
 exact aS rfl ((c3 hct _ _ _).trans (c6 vm115 c a0 a1 a2 h K'))
theorem pf115(c:aa)(ls:List Lf)(h:HTr)(K:List Lf→HTr→RT):f115 (BA ab ac (ct115 c)) ls h K=wr115 c ls h K:=q_rI (fun n6 l7=>q_rI (fun n8 l9=>q_rI (fun n10 l11=>q_r0 (bt (af (rfl) (rfl))))))
theorem ok115{c:aa}(hc:Cok c):Ent 115 (w115 c):=aA (aB (f:=fun A=>f115 A) (ct:=ct115) pf115 (congrFun (congrFun e115 RT) HTr) i115 (ak hc aN)) rfl (by kernel_rfl)
/-- crimp/segments.lies -/
noncomputable def ct83(c:aa):aa:=tblF [(88,w88 c),(114,w114 c),(115,w115 c)] c
noncomputable def b83(c:aa)(a0:Int)(a1:Int)(a2:Int)(a3:Int)(h:HTr)(K:Int→Int→Int→Int→HTr→RT):RT:=mc114 c a0 a1 a2 a3 h (fun r_1 r_2 r_3 J=>mc88 c a0 a1 a2 a3 J (fun r_4 r_5 r_6 r_7 r_8 O=>mc115 c r_1 r_4 r_5 O (fun r_9 U=>mc115 c r_1 r_6 r_7 U (fun r_10 V=>K r_1 r_2 r_9 r_10 V))))
noncomputable def wr83(c:aa):FB:=fun ls h K=>rI (fun J O=>rI (fun U V=>rI (fun a0 a1=>rI (fun a2 a3=>r0 (b83 c J U a0 a2 h (fun r0 a4 a5 a6 h=>K [.i r0,.i a4,.i a5,.i a6] h)) a3) a1) V) O) ls
noncomputable def w83(c:aa):FB:=memo (wr83 c)
noncomputable def mc83(c:aa)(J:Int)(O:Int)(U:Int)(V:Int)(h:HTr)(K:Int→Int→Int→Int→HTr→RT):RT:=fI J fun J=>fI O fun O=>fI U fun U=>fI V fun V=>@Option.rec _ (fun _=>RT) none (fun rs=>dN K rs h) (b83 c J O U V .empty (fun r0 a0 a1 a2 h=>tell [.i r0,.i a0,.i a1,.i a2] h))
theorem vm83:(fun(c:aa) (a0:Int) (a1:Int) (a2:Int) (a3:Int) (h:HTr) (K:Int→Int→Int→Int→HTr→RT)=>w83 c [.i a0,.i a1,.i a2,.i a3] h (dN K))=fun c a0 a1 a2 a3 h K=>mc83 c a0 a1 a2 a3 h K:=by kernel_rfl
theorem qm83{c call:aa}(hct:call (.f 83)=w83 c){a0:Int}{a1:Int}{a2:Int}{a3:Int}{h:HTr}{K:List Lf→HTr→RT}{K':Int→Int→Int→Int→HTr→RT}(hX:∀rs h,K rs h=dN K' rs h):(BA ab ac call).call 83 [.i a0,.i a1,.i a2,.i a3] h K=mc83 c a0 a1 a2 a3 h K':=by
 obtain rfl:=fx hX
 exact aS rfl ((c3 hct _ _ _).trans (c7 vm83 c a0 a1 a2 a3 h K'))
theorem pf83(c:aa)(ls:List Lf)(h:HTr)(K:List Lf→HTr→RT):f83 (BA ab ac (ct83 c)) ls h K=wr83 c ls h K:=q_rI (fun n6 l7=>q_rI (fun n8 l9=>q_rI (fun n10 l11=>q_rI (fun n12 l13=>q_r0 (qm114 rfl (fun l14 h15=>ae (fun n16 l17=>ae (fun n18 l19=>ae (fun n20 l21=>aj (qm88 rfl (fun l22 h23=>ae (fun n24 l25=>ae (fun n26 l27=>ae (fun n28 l29=>ae (fun n30 l31=>ae (fun n32 l33=>aj (qm115 rfl (fun l34 h35=>ae (fun n36 l37=>aj (qm115 rfl (fun l38 h39=>ae (fun n40 l41=>aj (rfl)))))))))))))))))))))))
theorem ok83{c:aa}(hc:Cok c):Ent 83 (w83 c):=aA (aB (f:=fun A=>f83 A) (ct:=ct83) pf83 (congrFun (congrFun e83 RT) HTr) i83 (ak hc (aC (ok88 hc) (aC (ok114 hc) (aC (ok115 hc) aN))))) rfl (by kernel_rfl)
/-- crimp/segments.pieces -/
noncomputable def ct57(c:aa):aa:=tblF [(82,w82 c),(83,w83 c)] c
noncomputable def b57(c:aa)(a0:Int)(a1:Int)(h:HTr)(K:Value→HTr→RT):RT:=b82 c a0 a1 h (fun r_1 r_2 U=>optB (lenS r_1) (fun b2=>newB (.map [] 0) U (fun O V=>optB (lenS r_1) (fun a2=>bk (fun a3 a4 J=>unIB a4 (fun n23 a5=>un0B a5 (cB ( K (.map (some O)) J) ( optB (idS 2 r_1 n23) (fun a6=>lgB cc 2 a6 J (fun a7=>ucIB .i64 a7 (fun n28 a8=>ucIB .u8 a8 (fun n30 a9=>uc0B a9 ( mc83 c a0 a1 n28 n30 J (fun r_3 r_4 r_5 r_6 b0=>pv ac (.fn (muG cc 157 (.map (some O)) (.agg ⟨[(.int .u8 r_3),(.int .i64 r_4),(.int .i64 r_5)]⟩) (.agg ⟨[(.int .i64 n28),(.int .u8 n30),(.int .i64 r_6)]⟩))) b0 (fun b3 b1=>addK n23 (.ofNat (nat_lit 1)) (fun c_=>al c_ (fun n44=>a3 [.i n44] b1)))))))))) (notK (leZ a2 n23))))) [.i (.ofNat (nat_lit 0))] V))))
noncomputable def wr57(c:aa):FB:=fun ls h K=>rI (fun J O=>rI (fun U V=>r0 (b57 c J U h (fun r0 h=>K [.v r0] h)) V) O) ls
noncomputable def w57(c:aa):FB:=wr57 c
theorem pf57(c:aa)(ls:List Lf)(h:HTr)(K:List Lf→HTr→RT):f57 (BA ab ac (ct57 c)) ls h K=wr57 c ls h K:=q_rI (fun n6 l7=>q_rI (fun n8 l9=>q_r0 (qb82 rfl (fun r_1 r_2 h11=>de (cj (bP (ai (fun x16=>cv (fun m17 h18=>ai (fun x19=>aQ (fun s20 l21 h22=>ae (fun n23 l24=>aj (aK (af (ai (fun x26=>q_lg (fun l27=>ah (fun n28 l29=>ah (fun n30 l31=>aw (qm83 rfl (fun l32 h33=>ae (fun n34 l35=>ae (fun n36 l37=>ae (fun n38 l39=>ae (fun n40 l41=>aj (q_heap (fun l42 h43=>aq (fun n44=>rfl)))))))))))))) (rfl)))))))))))))))
theorem ok57{c:aa}(hc:Cok c):Ent 57 (w57 c):=aB (f:=fun A=>f57 A) (ct:=ct57) pf57 (congrFun (congrFun e57 RT) HTr) i57 (ak hc (aC (ok82 hc) (aC (ok83 hc) aN)))
/-- crimp/segments.ordinary -/
noncomputable def ct84(c:aa):aa:=tblF [(116,w116 c)] c
noncomputable def b84(c:aa)(a0:Int)(a1:Int)(a2:Int)(a3:Int)(a4:Int)(h:HTr)(K:Bool→HTr→RT):RT:=bh (fun U V=>unBB U (fun a5 a6=>un0B a6 (K a5 V))) (fun J=>cB ( J [.b false] h) ( cB ( J [.b false] h) ( mc116 c a1 a2 h (fun r_1 O=>cB ( J [.b false] O) ( J [.b (notK (leZ a4 a3))] O) (eqZK r_1 (.ofNat (nat_lit 0))))) (leZ a0 (.ofNat (nat_lit 3)))) (leZ (.ofNat (nat_lit 1)) a0))
noncomputable def wr84(c:aa):FB:=fun ls h K=>rI (fun J O=>rI (fun U V=>rI (fun a0 a1=>rI (fun a2 a3=>rI (fun a4 a5=>r0 (b84 c J U a0 a2 a4 h (fun r0 h=>K [.b r0] h)) a5) a3) a1) V) O) ls
noncomputable def w84(c:aa):FB:=memo (wr84 c)
noncomputable def mc84(c:aa)(J:Int)(O:Int)(U:Int)(V:Int)(a0:Int)(h:HTr)(K:Bool→HTr→RT):RT:=fI J fun J=>fI O fun O=>fI U fun U=>fI V fun V=>fI a0 fun a0=>@Option.rec _ (fun _=>RT) none (fun rs=>u_b K rs h) (b84 c J O U V a0 .empty (fun r0 h=>tell [.b r0] h))
theorem vm84:(fun(c:aa) (a0:Int) (a1:Int) (a2:Int) (a3:Int) (a4:Int) (h:HTr) (K:Bool→HTr→RT)=>w84 c [.i a0,.i a1,.i a2,.i a3,.i a4] h (u_b K))=fun c a0 a1 a2 a3 a4 h K=>mc84 c a0 a1 a2 a3 a4 h K:=by kernel_rfl
theorem qm84{c call:aa}(hct:call (.f 84)=w84 c){a0:Int}{a1:Int}{a2:Int}{a3:Int}{a4:Int}{h:HTr}{K:List Lf→HTr→RT}{K':Bool→HTr→RT}(hX:∀rs h,K rs h=u_b K' rs h):(BA ab ac call).call 84 [.i a0,.i a1,.i a2,.i a3,.i a4] h K=mc84 c a0 a1 a2 a3 a4 h K':=by
 obtain rfl:=fx hX
 exact aS rfl ((c3 hct _ _ _).trans (c8 vm84 c a0 a1 a2 a3 a4 h K'))
theorem pf84(c:aa)(ls:List Lf)(h:HTr)(K:List Lf→HTr→RT):f84 (BA ab ac (ct84 c)) ls h K=wr84 c ls h K:=q_rI (fun n6 l7=>q_rI (fun n8 l9=>q_rI (fun n10 l11=>q_rI (fun n12 l13=>q_rI (fun n14 l15=>q_r0 (aO (fun l16 h17=>fL (fun t18 l19=>aj (rfl))) (fun j20=>ki (af (kL (af (qm116 rfl (fun l23 h24=>ae (fun n25 l26=>aj (bt (af (aK (rfl)) (rfl)))))) (rfl))) (rfl)))))))))
theorem ok84{c:aa}(hc:Cok c):Ent 84 (w84 c):=aA (aB (f:=fun A=>f84 A) (ct:=ct84) pf84 (congrFun (congrFun e84 RT) HTr) i84 (ak hc (aC (ok116 hc) aN))) rfl (by kernel_rfl)
/-- crimp/segments.units -/
noncomputable def ct58(c:aa):aa:=tblF [(84,w84 c),(85,w85 c)] c
noncomputable def b58(c:aa)(a0:Value)(a1:Int)(a2:Int)(a3:Int)(a4:Int)(a5:Int)(h:HTr)(K:Value→Int→HTr→RT):RT:=mc84 c a1 a2 a3 a4 a5 h (fun r_1 U=>cB ( bk (fun a6 a7 J=>unVB a7 (fun O a8=>unIB a8 (fun n27 a9=>un0B a9 (cB ( bD [.v O] (b85 c O J (fun r_2 b0=>K r_2 (.ofNat (nat_lit 0)) b0))) ( peekB ac (.fn (luG cc 157 true (.agg ⟨[(.int .i64 (.ofNat (nat_lit 0))),(.int .u8 (.ofNat (nat_lit 0))),(.int .i64 (.ofNat (nat_lit 0)))]⟩) a0 (.agg ⟨[(.int .u8 a2),(.int .i64 a3),(.int .i64 n27)]⟩) true)) J (fun b1=>ucIB .i64 b1 (fun n31 b2=>ucIB .u8 b2 (fun n33 b3=>ucIB .i64 b3 (fun n35 b4=>ucBB b4 (fun b6 b7=>uc0B b7 ( cB ( cB ( newB (.cells [(.int .i64 n31),(.int .u8 n33)] 2 true) J (fun b8 b9=>apB ac cc 2 16 O (.slice (some ⟨b8,0,(some 12)⟩) 1 2) b9 (fun c0 c1=>ucVB c0 (fun V d0=>chkB V ( uc0B d0 ( a6 [.v V,.i n35] c1)))))) ( K (.slice none 0 0) (.ofNat (nat_lit 7)) J) (notK (leZ n35 a5))) ( K (.slice none 0 0) (.ofNat (nat_lit 7)) J) (!b6)))))))) (notK (eqZK n27 a5)))))) [.v (.slice none 0 0),.i a4] U) ( K (.slice none 0 0) (.ofNat (nat_lit 1)) U) (!r_1))
noncomputable def wr58(c:aa):FB:=fun ls h K=>rV (fun J O=>rI (fun U V=>rI (fun a0 a1=>rI (fun a2 a3=>rI (fun a4 a5=>rI (fun a6 a7=>r0 (b58 c J U a0 a2 a4 a6 h (fun r0 a8 h=>K [.v r0,.i a8] h)) a7) a5) a3) a1) V) O) ls
noncomputable def w58(c:aa):FB:=wr58 c
theorem pf58(c:aa)(ls:List Lf)(h:HTr)(K:List Lf→HTr→RT):f58 (BA ab ac (ct58 c)) ls h K=wr58 c ls h K:=q_rV (fun x6 l7=>q_rI (fun n8 l9=>q_rI (fun n10 l11=>q_rI (fun n12 l13=>q_rI (fun n14 l15=>q_rI (fun n16 l17=>q_r0 (qm84 rfl (fun l18 h19=>fL (fun t20 l21=>aj (af (rfl) (aQ (fun s22 l23 h24=>du (fun x25 l26=>ae (fun n27 l28=>aj (bv (af (q_peek (fun l30=>ah (fun n31 l32=>ah (fun n33 l34=>ah (fun n35 l36=>q_ucB (fun t37 l38=>aw (af (rfl) (bu (af (rfl) (cv (fun m40 h41=>q_ap (fun l42 h43=>cN (fun x44 l45=>aV (aw (rfl))))))))))))))) (qb85 rfl (fun r_2 h47=>de (bP (rfl))))))))))))))))))))
theorem ok58{c:aa}(hc:Cok c):Ent 58 (w58 c):=aB (f:=fun A=>f58 A) (ct:=ct58) pf58 (congrFun (congrFun e58 RT) HTr) i58 (ak hc (aC (ok84 hc) (aC (ok85 hc) aN)))
/-- slices.Clip[[]crimp/patterns.Crease,crimp/patterns.Crease] -/
noncomputable def ct61(c:aa):aa:=tblF [] c
noncomputable def b61(c:aa)(a0:Value)(h:HTr)(K:Value→HTr→RT):RT:=optB (lenS a0) (fun O=>optB (lenS a0) (fun U=>optB (slS 3 a0 none (some O) (some U)) (fun J=>chkB J ( K J h))))
noncomputable def wr61(c:aa):FB:=fun ls h K=>rV (fun J O=>r0 (b61 c J h (fun r0 h=>K [.v r0] h)) O) ls
noncomputable def w61(c:aa):FB:=wr61 c
theorem pf61(c:aa)(ls:List Lf)(h:HTr)(K:List Lf→HTr→RT):f61 (BA ab ac (ct61 c)) ls h K=wr61 c ls h K:=q_rV (fun x6 l7=>q_r0 (ai (fun x8=>ai (fun x9=>ai (fun x10=>aV (rfl))))))
theorem ok61{c:aa}(hc:Cok c):Ent 61 (w61 c):=aB (f:=fun A=>f61 A) (ct:=ct61) pf61 (congrFun (congrFun e61 RT) HTr) i61 (ak hc aN)
/-- crimp/segments.Pattern -/
noncomputable def ct31(c:aa):aa:=tblF [(51,w51 c),(56,w56 c),(57,w57 c),(58,w58 c),(61,w61 c)] c
noncomputable def wr31(c:aa):FB:=f31 (BA ab ac (ct31 c))
noncomputable def w31(c:aa):FB:=wr31 c
theorem ok31{c:aa}(hc:Cok c):Ent 31 (w31 c):=aB (f:=fun A=>f31 A) (ct:=ct31) (fun _ _ _ _=>rfl) (congrFun (congrFun e31 RT) HTr) i31 (ak hc (aC (ok51 hc) (aC (ok56 hc) (aC (ok57 hc) (aC (ok58 hc) (aC (ok61 hc) aN))))))
/-- crimp/crimplaw09.lives -/
noncomputable def ct11(c:aa):aa:=tblF [(5,w5 c),(13,w13 c),(15,w15 c),(16,w16 c),(18,w18 c),(19,w19 c),(20,w20 c),(31,w31 c)] c
noncomputable def wr11(c:aa):FB:=f11 (BA ab ac (ct11 c))
noncomputable def w11(c:aa):FB:=memo (wr11 c)
theorem ok11{c:aa}(hc:Cok c):Ent 11 (w11 c):=aA (aB (f:=fun A=>f11 A) (ct:=ct11) (fun _ _ _ _=>rfl) (congrFun (congrFun e11 RT) HTr) i11 (ak hc (aC (ok5 hc) (aC (ok13 hc) (aC (ok15 hc) (aC (ok16 hc) (aC (ok18 hc) (aC (ok19 hc) (aC (ok20 hc) (aC (ok31 hc) aN)))))))))) rfl (by kernel_rfl)
/-- (crimp/crimplaw05.W).Of -/
noncomputable def ct12(c:aa):aa:=tblF [] c
noncomputable def b12(c:aa)(a0:Int)(a1:Int)(h:HTr)(K:Int→Int→HTr→RT):RT:=@Bool.rec (fun _=>RT) (remK a0 (.ofNat (nat_lit 5)) (fun n10=>al n10 (fun n11=>addK (.ofNat (nat_lit 1)) n11 (fun c_=>al c_ (fun n12=>@Bool.rec (fun _=>RT) (remK a1 (.ofNat (nat_lit 5)) (fun n13=>al n13 (fun n14=>addK (.ofNat (nat_lit 1)) n14 (fun c_=>al c_ (fun n15=>K n12 n15 h))))) none (isZ (.ofNat (nat_lit 5)))))))) none (isZ (.ofNat (nat_lit 5)))
noncomputable def wr12(c:aa):FB:=fun ls h K=>rI (fun J O=>rI (fun U V=>r0 (b12 c J U h (fun r0 a0 h=>K [.i r0,.i a0] h)) V) O) ls
noncomputable def w12(c:aa):FB:=memo (wr12 c)
theorem pf12(c:aa)(ls:List Lf)(h:HTr)(K:List Lf→HTr→RT):f12 (BA ab ac (ct12 c)) ls h K=wr12 c ls h K:=q_rI (fun n6 l7=>q_rI (fun n8 l9=>q_r0 (cw (fun n10=>cf (fun n11=>aq (fun n12=>cw (fun n13=>cf (fun n14=>aq (fun n15=>rfl)))))))))
theorem ok12{c:aa}(hc:Cok c):Ent 12 (w12 c):=aA (aB (f:=fun A=>f12 A) (ct:=ct12) pf12 (congrFun (congrFun e12 RT) HTr) i12 (ak hc aN)) rfl (by kernel_rfl)
/-- crimp/crimpref09.Is -/
noncomputable def ct14(c:aa):aa:=tblF [] c
noncomputable def b14(c:aa)(a0:Int)(a1:Int)(a2:Int)(a3:Int)(h:HTr)(K:Int→HTr→RT):RT:=cB ( K (.ofNat (nat_lit 0)) h) ( cB ( K (.ofNat (nat_lit 0)) h) ( mulK (.ofNat (nat_lit 2)) a0 (fun c_=>al c_ (fun n16=>cB ( K (.ofNat (nat_lit 0)) h) ( mulK (.ofNat (nat_lit 2)) a1 (fun c_=>al c_ (fun n18=>cB ( K (.ofNat (nat_lit 0)) h) ( subK a2 a3 (fun c_=>al c_ (fun n20=>@Bool.rec (fun _=>RT) (remK n20 (.ofNat (nat_lit 2)) (fun n21=>bh (fun J O=>un0B J (K (.ofNat (nat_lit 0)) O)) (fun U=>cB ( U [] h) ( K (.ofNat (nat_lit 1)) h) (eqZK n21 (.ofNat (nat_lit 0)))))) none (isZ (.ofNat (nat_lit 2)))))) (notK (leZ n18 a3))))) (notK (leZ n16 a2))))) (notK (leZ a3 (.ofNat (nat_lit 0))))) (notK (leZ a2 (.ofNat (nat_lit 0))))
noncomputable def wr14(c:aa):FB:=fun ls h K=>rI (fun J O=>rI (fun U V=>rI (fun a0 a1=>rI (fun a2 a3=>r0 (b14 c J U a0 a2 h (fun r0 h=>K [.i r0] h)) a3) a1) V) O) ls
noncomputable def w14(c:aa):FB:=memo (wr14 c)
theorem pf14(c:aa)(ls:List Lf)(h:HTr)(K:List Lf→HTr→RT):f14 (BA ab ac (ct14 c)) ls h K=wr14 c ls h K:=q_rI (fun n6 l7=>q_rI (fun n8 l9=>q_rI (fun n10 l11=>q_rI (fun n12 l13=>q_r0 (bu (af (bu (af (aH (fun n16=>aK (af (aH (fun n18=>aK (af (aP (fun n20=>cw (fun n21=>bt (aO (fun l23 h24=>aj (rfl)) (fun j25=>af (rfl) (rfl)))))) (rfl)))) (rfl)))) (rfl))) (rfl)))))))
theorem ok14{c:aa}(hc:Cok c):Ent 14 (w14 c):=aA (aB (f:=fun A=>f14 A) (ct:=ct14) pf14 (congrFun (congrFun e14 RT) HTr) i14 (ak hc aN)) rfl (by kernel_rfl)
/-- crimp/corners.Degree -/
noncomputable def ct17(c:aa):aa:=tblF [(16,w16 c)] c
noncomputable def b17(c:aa)(a0:Int)(a1:Int)(a2:Value)(a3:Int)(a4:Int)(h:HTr)(K:Int→Int→HTr→RT):RT:=bD [.v a2] (b16 c a0 a1 a2 a3 a4 h (fun r_1 r_2 J=>optB (lenS r_1) (fun O=>K O r_2 J)))
noncomputable def wr17(c:aa):FB:=fun ls h K=>rI (fun J O=>rI (fun U V=>rV (fun a0 a1=>rI (fun a2 a3=>rI (fun a4 a5=>r0 (b17 c J U a0 a2 a4 h (fun r0 a6 h=>K [.i r0,.i a6] h)) a5) a3) a1) V) O) ls
noncomputable def w17(c:aa):FB:=wr17 c
theorem pf17(c:aa)(ls:List Lf)(h:HTr)(K:List Lf→HTr→RT):f17 (BA ab ac (ct17 c)) ls h K=wr17 c ls h K:=q_rI (fun n6 l7=>q_rI (fun n8 l9=>q_rV (fun x10 l11=>q_rI (fun n12 l13=>q_rI (fun n14 l15=>q_r0 (qb16 rfl (fun r_1 r_2 h17=>de (cj (bP (ai (fun x22=>rfl)))))))))))
theorem ok17{c:aa}(hc:Cok c):Ent 17 (w17 c):=aB (f:=fun A=>f17 A) (ct:=ct17) pf17 (congrFun (congrFun e17 RT) HTr) i17 (ak hc (aC (ok16 hc) aN))
/-- crimp/crimplaw09.CornersAll -/
noncomputable def ct4(c:aa):aa:=tblF [(5,w5 c),(12,w12 c),(13,w13 c),(14,w14 c),(15,w15 c),(16,w16 c),(17,w17 c),(18,w18 c),(19,w19 c)] c
noncomputable def wr4(c:aa):FB:=f4 (BA ab ac (ct4 c))
noncomputable def w4(c:aa):FB:=memo (wr4 c)
theorem ok4{c:aa}(hc:Cok c):Ent 4 (w4 c):=aA (aB (f:=fun A=>f4 A) (ct:=ct4) (fun _ _ _ _=>rfl) (congrFun (congrFun e4 RT) HTr) i4 (ak hc (aC (ok5 hc) (aC (ok12 hc) (aC (ok13 hc) (aC (ok14 hc) (aC (ok15 hc) (aC (ok16 hc) (aC (ok17 hc) (aC (ok18 hc) (aC (ok19 hc) aN))))))))))) rfl (by kernel_rfl)
/-- crimp/crimpref05.Cells -/
noncomputable def ct41(c:aa):aa:=tblF [] c
noncomputable def b41(c:aa)(a0:Int)(a1:Int)(h:HTr)(K:Value→HTr→RT):RT:=bk (fun a5 a6 J=>unVB a6 (fun O a7=>unIB a7 (fun n15 a8=>un0B a8 (cB ( K O J) ( bk (fun a9 b0 U=>unVB b0 (fun V b1=>unIB b1 (fun n23 b2=>un0B b2 (cB ( addK n15 (.ofNat (nat_lit 1)) (fun c_=>al c_ (fun n42=>a5 [.v V,.i n42] U))) ( bk (fun b3 b4 a2=>unVB b4 (fun a3 b6=>unIB b6 (fun n31 b7=>un0B b7 (cB ( addK n23 (.ofNat (nat_lit 1)) (fun c_=>al c_ (fun n41=>a9 [.v a3,.i n41] a2))) ( newB (.cells [(.int .i64 n23),(.int .i64 n15),(.int .u8 n31)] 3 true) a2 (fun b8 b9=>apB ac cc 3 24 a3 (.slice (some ⟨b8,0,(some 13)⟩) 1 2) b9 (fun c0 c1=>ucVB c0 (fun a4 d0=>chkB a4 ( uc0B d0 ( addK n31 (.ofNat (nat_lit 1)) (fun c_=>em c_ (fun n40=>b3 [.v a4,.i n40] c1)))))))) (notK (leZ (.ofNat (nat_lit 4)) n31)))))) [.v V,.i (.ofNat (nat_lit 0))] U) (notK (leZ a0 n23)))))) [.v O,.i (.ofNat (nat_lit 0))] J) (notK (leZ a1 n15)))))) [.v (.slice none 0 0),.i (.ofNat (nat_lit 0))] h
noncomputable def wr41(c:aa):FB:=fun ls h K=>rI (fun J O=>rI (fun U V=>r0 (b41 c J U h (fun r0 h=>K [.v r0] h)) V) O) ls
noncomputable def w41(c:aa):FB:=wr41 c
theorem vb41:(fun(c:aa) (a0:Int) (a1:Int) (h:HTr) (K:List Lf→HTr→RT)=>w41 c [.i a0,.i a1] h K)=fun c a0 a1 h K=>b41 c a0 a1 h (fun r0 h=>K [.v r0] h):=by kernel_rfl
theorem qb41{c call:aa}(hct:call (.f 41)=w41 c){a0:Int}{a1:Int}{h:HTr}{K:List Lf→HTr→RT}{K':Value→HTr→RT}(hX:∀r0 h,K [.v r0] h=K' r0 h):(BA ab ac call).call 41 [.i a0,.i a1] h K=b41 c a0 a1 h K':=by
 obtain rfl:K'=fun r0 h=>K [.v r0] h:=funext fun r0=>funext fun h=>(hX r0 h).symm
 exact aS rfl ((c3 hct _ _ _).trans (c5 vb41 c a0 a1 h K))
theorem pf41(c:aa)(ls:List Lf)(h:HTr)(K:List Lf→HTr→RT):f41 (BA ab ac (ct41 c)) ls h K=wr41 c ls h K:=q_rI (fun n6 l7=>q_rI (fun n8 l9=>q_r0 (aQ (fun s10 l11 h12=>du (fun x13 l14=>ae (fun n15 l16=>aj (aK (af (aQ (fun s18 l19 h20=>du (fun x21 l22=>ae (fun n23 l24=>aj (aK (af (aQ (fun s26 l27 h28=>du (fun x29 l30=>ae (fun n31 l32=>aj (aK (af (cv (fun m34 h35=>q_ap (fun l36 h37=>cN (fun x38 l39=>aV (aw (dl (fun n40=>rfl))))))) (aq (fun n41=>rfl)))))))) (aq (fun n42=>rfl)))))))) (rfl)))))))))
theorem ok41{c:aa}(hc:Cok c):Ent 41 (w41 c):=aB (f:=fun A=>f41 A) (ct:=ct41) pf41 (congrFun (congrFun e41 RT) HTr) i41 (ak hc aN)
/-- crimp/crimpref03.Corners -/
noncomputable def ct46(c:aa):aa:=tblF [] c
noncomputable def b46(c:aa)(a0:Int)(a1:Int)(a2:Int)(h:HTr)(K:Int→Int→Int→Int→Int→Int→HTr→RT):RT:=mulK (.ofNat (nat_lit 2)) a0 (fun c_=>al c_ (fun n12=>mulK (.ofNat (nat_lit 2)) a1 (fun c_=>al c_ (fun n13=>addK n12 (.ofNat (nat_lit 2)) (fun c_=>al c_ (fun n14=>addK n12 (.ofNat (nat_lit 2)) (fun c_=>al c_ (fun n15=>addK n13 (.ofNat (nat_lit 2)) (fun c_=>al c_ (fun n16=>addK n13 (.ofNat (nat_lit 2)) (fun c_=>al c_ (fun n17=>al a2 (fun n18=>al a2 (fun n19=>addK n19 (.ofNat (nat_lit 1)) (fun c_=>al c_ (fun n20=>@Bool.rec (fun _=>RT) (remK n20 (.ofNat (nat_lit 4)) (fun n21=>@Bool.rec (fun _=>RT) (remK n18 (.ofNat (nat_lit 2)) (fun n22=>bh (fun O U=>unIB O (fun n26 V=>unIB V (fun n28 a3=>un0B a3 (addK n12 (.ofNat (nat_lit 1)) (fun c_=>al c_ (fun n30=>addK n13 (.ofNat (nat_lit 1)) (fun c_=>al c_ (fun n31=>optB (inB 4 n26) (fun b0=>optB (bo [(.i n12),(.i n13),(.i n14),(.i n13),(.i n15),(.i n16),(.i n12),(.i n17)] 0 [(n26,2)] 2) (fun a4=>unIB a4 (fun n34 a5=>unIB a5 (fun n36 a6=>un0B a6 (optB (inB 4 n28) (fun b1=>optB (bo [(.i n12),(.i n13),(.i n14),(.i n13),(.i n15),(.i n16),(.i n12),(.i n17)] 0 [(n28,2)] 2) (fun a7=>unIB a7 (fun n40 a8=>unIB a8 (fun n42 a9=>un0B a9 (K n30 n31 n34 n36 n40 n42 U)))))))))))))))))) (fun J=>cB ( J [.i n18,.i n21] h) ( J [.i n21,.i n18] h) (eqZK n22 (.ofNat (nat_lit 1)))))) none (isZ (.ofNat (nat_lit 2))))) none (isZ (.ofNat (nat_lit 4)))))))))))))))))))
noncomputable def wr46(c:aa):FB:=fun ls h K=>rI (fun J O=>rI (fun U V=>rI (fun a0 a1=>r0 (b46 c J U a0 h (fun r0 a2 a3 a4 a5 a6 h=>K [.i r0,.i a2,.i a3,.i a4,.i a5,.i a6] h)) a1) V) O) ls
noncomputable abbrev nC(K:Int→Int→Int→Int→Int→Int→HTr→RT)(rs:List Lf)(h:HTr):RT:=unIB rs fun r0 J=>unIB J fun O U=>unIB U fun V a0=>unIB a0 fun a1 a2=>unIB a2 fun a3 a4=>unIB a4 fun a5 a6=>un0B a6 (K r0 O V a1 a3 a5 h)
noncomputable def w46(c:aa):FB:=memo (wr46 c)
noncomputable def mc46(c:aa)(J:Int)(O:Int)(U:Int)(h:HTr)(K:Int→Int→Int→Int→Int→Int→HTr→RT):RT:=fI J fun J=>fI O fun O=>fI U fun U=>@Option.rec _ (fun _=>RT) none (fun rs=>nC K rs h) (b46 c J O U .empty (fun r0 V a0 a1 a2 a3 h=>tell [.i r0,.i V,.i a0,.i a1,.i a2,.i a3] h))
theorem vm46:(fun(c:aa) (a0:Int) (a1:Int) (a2:Int) (h:HTr) (K:Int→Int→Int→Int→Int→Int→HTr→RT)=>w46 c [.i a0,.i a1,.i a2] h (nC K))=fun c a0 a1 a2 h K=>mc46 c a0 a1 a2 h K:=by kernel_rfl
theorem qm46{c call:aa}(hct:call (.f 46)=w46 c){a0:Int}{a1:Int}{a2:Int}{h:HTr}{K:List Lf→HTr→RT}{K':Int→Int→Int→Int→Int→Int→HTr→RT}(hX:∀rs h,K rs h=nC K' rs h):(BA ab ac call).call 46 [.i a0,.i a1,.i a2] h K=mc46 c a0 a1 a2 h K':=by
 obtain rfl:=fx hX
 exact aS rfl ((c3 hct _ _ _).trans (c6 vm46 c a0 a1 a2 h K'))
theorem pf46(c:aa)(ls:List Lf)(h:HTr)(K:List Lf→HTr→RT):f46 (BA ab ac (ct46 c)) ls h K=wr46 c ls h K:=q_rI (fun n6 l7=>q_rI (fun n8 l9=>q_rI (fun n10 l11=>q_r0 (aH (fun n12=>aH (fun n13=>aq (fun n14=>aq (fun n15=>aq (fun n16=>aq (fun n17=>cf (fun n18=>cf (fun n19=>aq (fun n20=>cw (fun n21=>cw (fun n22=>bt (aO (fun l24 h25=>ae (fun n26 l27=>ae (fun n28 l29=>aj (aq (fun n30=>aq (fun n31=>ai (fun x32=>ai (fun x33=>ae (fun n34 l35=>ae (fun n36 l37=>aj (ai (fun x38=>ai (fun x39=>ae (fun n40 l41=>ae (fun n42 l43=>aj (rfl)))))))))))))))) (fun j44=>af (rfl) (rfl))))))))))))))))))
theorem ok46{c:aa}(hc:Cok c):Ent 46 (w46 c):=aA (aB (f:=fun A=>f46 A) (ct:=ct46) pf46 (congrFun (congrFun e46 RT) HTr) i46 (ak hc aN)) rfl (by kernel_rfl)
/-- crimp/crimpref09.has -/
noncomputable def ct42(c:aa):aa:=tblF [(46,w46 c)] c
noncomputable def b42(c:aa)(a0:Int)(a1:Int)(a2:Int)(a3:Int)(a4:Int)(h:HTr)(K:Int→HTr→RT):RT:=mc46 c a0 a1 a2 h (fun r_1 r_2 r_3 r_4 r_5 r_6 a5=>bk (fun a6 a7 J=>unIB a7 (fun n33 a8=>unIB a8 (fun n35 a9=>unIB a9 (fun n37 b0=>un0B b0 (cB ( cB ( cB ( K (.ofNat (nat_lit 0)) J) ( K (.ofNat (nat_lit 1)) J) (eqZK n35 (.ofNat (nat_lit 3)))) ( K (.ofNat (nat_lit 1)) J) (eqZK n33 (.ofNat (nat_lit 3)))) ( optB (inB 3 n37) (fun d1=>optB (bo [(.i r_1),(.i r_2),(.i r_3),(.i r_4),(.i r_5),(.i r_6)] 0 [(n37,2)] 2) (fun b1=>unIB b1 (fun n42 b2=>unIB b2 (fun n44 b3=>un0B b3 (addK n37 (.ofNat (nat_lit 1)) (fun c_=>al c_ (fun n46=>@Bool.rec (fun _=>RT) (remK n46 (.ofNat (nat_lit 3)) (fun n47=>optB (inB 3 n47) (fun d2=>optB (bo [(.i r_1),(.i r_2),(.i r_3),(.i r_4),(.i r_5),(.i r_6)] 0 [(n47,2)] 2) (fun b4=>unIB b4 (fun n50 b6=>unIB b6 (fun n52 b7=>un0B b7 (mulK (.ofNat (nat_lit 12)) n50 (fun c_=>al c_ (fun n54=>mulK (.ofNat (nat_lit 12)) n42 (fun c_=>al c_ (fun n55=>subK n54 n55 (fun c_=>al c_ (fun n56=>mulK (.ofNat (nat_lit 12)) n44 (fun c_=>al c_ (fun n57=>subK a4 n57 (fun c_=>al c_ (fun n58=>mulK n56 n58 (fun c_=>al c_ (fun n59=>mulK (.ofNat (nat_lit 12)) n52 (fun c_=>al c_ (fun n60=>mulK (.ofNat (nat_lit 12)) n44 (fun c_=>al c_ (fun n61=>subK n60 n61 (fun c_=>al c_ (fun n62=>mulK (.ofNat (nat_lit 12)) n42 (fun c_=>al c_ (fun n63=>subK a3 n63 (fun c_=>al c_ (fun n64=>mulK n62 n64 (fun c_=>al c_ (fun n65=>subK n59 n65 (fun c_=>al c_ (fun n66=>bh (fun b8 O=>unIB b8 (fun n70 b9=>un0B b9 (bh (fun c0 c1=>unIB c0 (fun n75 d0=>un0B d0 (addK n37 (.ofNat (nat_lit 1)) (fun c_=>al c_ (fun n77=>a6 [.i n70,.i n75,.i n77] c1))))) (fun U=>cB ( U [.i n35] O) ( addK n35 (.ofNat (nat_lit 1)) (fun c_=>al c_ (fun n79=>U [.i n79] O))) (notK (leZ (.ofNat (nat_lit 0)) n66)))))) (fun V=>cB ( V [.i n33] J) ( addK n33 (.ofNat (nat_lit 1)) (fun c_=>al c_ (fun n81=>V [.i n81] J))) (notK (leZ n66 (.ofNat (nat_lit 0)))))))))))))))))))))))))))))))))))))) none (isZ (.ofNat (nat_lit 3))))))))))) (notK (leZ (.ofNat (nat_lit 3)) n37))))))) [.i (.ofNat (nat_lit 0)),.i (.ofNat (nat_lit 0)),.i (.ofNat (nat_lit 0))] a5)
noncomputable def wr42(c:aa):FB:=fun ls h K=>rI (fun J O=>rI (fun U V=>rI (fun a0 a1=>rI (fun a2 a3=>rI (fun a4 a5=>r0 (b42 c J U a0 a2 a4 h (fun r0 h=>K [.i r0] h)) a5) a3) a1) V) O) ls
noncomputable def w42(c:aa):FB:=memo (wr42 c)
noncomputable def mc42(c:aa)(J:Int)(O:Int)(U:Int)(V:Int)(a0:Int)(h:HTr)(K:Int→HTr→RT):RT:=fI J fun J=>fI O fun O=>fI U fun U=>fI V fun V=>fI a0 fun a0=>@Option.rec _ (fun _=>RT) none (fun rs=>u_i K rs h) (b42 c J O U V a0 .empty (fun r0 h=>tell [.i r0] h))
theorem vm42:(fun(c:aa) (a0:Int) (a1:Int) (a2:Int) (a3:Int) (a4:Int) (h:HTr) (K:Int→HTr→RT)=>w42 c [.i a0,.i a1,.i a2,.i a3,.i a4] h (u_i K))=fun c a0 a1 a2 a3 a4 h K=>mc42 c a0 a1 a2 a3 a4 h K:=by kernel_rfl
theorem qm42{c call:aa}(hct:call (.f 42)=w42 c){a0:Int}{a1:Int}{a2:Int}{a3:Int}{a4:Int}{h:HTr}{K:List Lf→HTr→RT}{K':Int→HTr→RT}(hX:∀rs h,K rs h=u_i K' rs h):(BA ab ac call).call 42 [.i a0,.i a1,.i a2,.i a3,.i a4] h K=mc42 c a0 a1 a2 a3 a4 h K':=by
 obtain rfl:=fx hX
 exact aS rfl ((c3 hct _ _ _).trans (c8 vm42 c a0 a1 a2 a3 a4 h K'))
theorem pf42(c:aa)(ls:List Lf)(h:HTr)(K:List Lf→HTr→RT):f42 (BA ab ac (ct42 c)) ls h K=wr42 c ls h K:=q_rI (fun n6 l7=>q_rI (fun n8 l9=>q_rI (fun n10 l11=>q_rI (fun n12 l13=>q_rI (fun n14 l15=>q_r0 (qm46 rfl (fun l16 h17=>ae (fun n18 l19=>ae (fun n20 l21=>ae (fun n22 l23=>ae (fun n24 l25=>ae (fun n26 l27=>ae (fun n28 l29=>aj (aQ (fun s30 l31 h32=>ae (fun n33 l34=>ae (fun n35 l36=>ae (fun n37 l38=>aj (aK (af (ai (fun x40=>ai (fun x41=>ae (fun n42 l43=>ae (fun n44 l45=>aj (aq (fun n46=>cw (fun n47=>ai (fun x48=>ai (fun x49=>ae (fun n50 l51=>ae (fun n52 l53=>aj (aH (fun n54=>aH (fun n55=>aP (fun n56=>aH (fun n57=>aP (fun n58=>aH (fun n59=>aH (fun n60=>aH (fun n61=>aP (fun n62=>aH (fun n63=>aP (fun n64=>aH (fun n65=>aP (fun n66=>bu (aO (fun l68 h69=>ae (fun n70 l71=>aj (aK (aO (fun l73 h74=>ae (fun n75 l76=>aj (aq (fun n77=>rfl)))) (fun j78=>af (aq (fun n79=>rfl)) (rfl)))))) (fun j80=>af (aq (fun n81=>rfl)) (rfl))))))))))))))))))))))))))))) (bt (af (rfl) (bt (af (rfl) (rfl)))))))))))))))))))))))))
theorem ok42{c:aa}(hc:Cok c):Ent 42 (w42 c):=aA (aB (f:=fun A=>f42 A) (ct:=ct42) pf42 (congrFun (congrFun e42 RT) HTr) i42 (ak hc (aC (ok46 hc) aN))) rfl (by kernel_rfl)
/-- crimp/crimpref09.Around -/
noncomputable def ct21(c:aa):aa:=tblF [(41,w41 c),(42,w42 c)] c
end Go.Am

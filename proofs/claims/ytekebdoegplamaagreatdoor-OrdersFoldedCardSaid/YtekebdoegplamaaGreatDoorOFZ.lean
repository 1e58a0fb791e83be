import Derived.Test.YtekebdoegplamaaGreatDoorOF9
set_option linter.all false
set_option maxRecDepth 100000
namespace Go.Proofs.YtekebdoegplamaaGreatDoor
open Go Go.Am Go.Am.Sx
open Go.ChangeShapes Go.WideShapes Go.ChangeAt Go.WideMaps Go.WideElems Go.RowKit
theorem l_ (os:Os) (st:os.Started) (H:Type) (enc:TypeId×Value→H) :
  ReturnsInHanded {} Tryz.checked os 3 .any (λw args=>(Rows.ordersFoldedSpec.pre enc Tryz.prog Tryz.f3 [] false w args∧laidMetH Tryz.prog LS w)∧sizedMet enc Tryz.prog Tryz.f3 (OpenSpec.ofChange Rows.ordersFoldedSpec) false w args)
   (Rows.ordersFoldedSpec.post enc Tryz.prog Tryz.f3 false true false false):=by
 refine returnsInHanded_of_change_and (C:=Tryz.checked) (X:=λw _=>laidMetH Tryz.prog LS w) (λ_ _ _ hh h=>h.of_heap hh) own st e_ Tryz.func3
  (ChangeSpec.witness_shaped (enc:=enc) (C:=Tryz.checked) (os:=os) (X:=λw _=>laidMetH Tryz.prog LS w) false (World.doorLaid Tryz.prog 400 os) #[.agg #[.int .u8 0,.int .u8 0,.slice none 0 0]] 8 rfl (World.shaped_of_RefB e_ e_) e_ e_ e_ (Yx os _)) ?_
 intro W base args ds gs bf hval hW _ _ hL _
 obtain⟨p,q,hA0,hV,hbef,hfz,hnd⟩:=id hW
 obtain⟨rfl,rfl⟩:=trodVars_none hV
 have hl:ds.length=1:=(rH hA0).trans e_
 obtain⟨G,hG⟩:=of_laid hL
 obtain⟨xs,bl,a1,a2,a3,a4,a5,a6⟩:=sZ Tryz.f3.params.toList [[.i .u8,.i .u8,.s [.i .u8,.i .u8,.i .u8]]] [.agg [.i .u8,.i .u8,.v]] args.toList ds p 0 e_ (λj t v h1 h2=>hval j t v (by simpa using h1) (by simpa using h2)) hA0
 obtain⟨h',d⟩:=lm (cT xs) (bl.map λb=>HO.o b.1) (a5 _ (hp_at bl))
 rw[absH_bl] at d
 have c:=oq (N:=Ng) mixed (Sg:=ac) (g:=3) (sg:=⟨[.agg [.i .u8,.i .u8,.v]],[lb]⟩) rfl d a2 rfl (ys:=[.leaf (.b true)]) rfl rfl
 rcases ds with _|⟨d1,_|⟨d0,ds⟩⟩<;>first|(exfalso;simp at hl;done)|skip
 refine (yi a1 c (args':=args) a4 rfl hG uF).mono λe W' ⟨he,h1,h2,_,h3⟩=>⟨_,he,?_⟩
 exact post_sl hW (λ_ _ _=>trodAll_mk1 (shut_bool Tryz.underlying4 _)) (a6 W' _ h3 (λb hb=>by simpa using hb)) (λ_=>rfl) h1 h2 h3
theorem s__:Rows.OrdersFoldedSaid:=
 OpenClaim.holds_of_wide 3 Tryz.f3 rfl rfl rfl rfl rfl rfl rfl ⟨rfl,rfl,rfl,rfl,rfl⟩ rfl rfl rfl rfl rfl e_ Tryz.func3 e_
  (of_decide_eq_true e_) (by unfold Func.isWrapper;rw[if_neg (by decide +kernel)];exact⟨rfl,rfl⟩)
  (λos st H enc _=>l_ os st H enc)
theorem n__:(Tryz.f3.params.toList.all λt=>!Tryz.prog.wantsStandIn t)=true:=by kernel_rfl
theorem ordersFolded:Rows.OrdersFoldedCardSaid:=
 Claim7.holds_tied_plain_at .later [] [.wider,.data] true (true,"0af5a998305742415cb6347ac361786e8ca581da203da03d0bd4c30b370733c7") false
  s__ (λ_ h=>by cases h) e_ (λ_ h=>by cases h) ordersFolded_row_tie rfl ⟨rfl,rfl⟩ e_ rfl
  (λf fn hf hfn=>by
   obtain rfl:f=3:=Option.some.inj ((show Tryz.prog.funcNamed "crimp/crimplaw26.OrdersFolded"=some 3 by kernel_rfl).symm.trans hf) |>.symm
   obtain rfl:fn=Tryz.f3:=(Option.some.inj (Tryz.func3.symm.trans hfn)).symm
   exact⟨by kernel_rfl,λj t ht=>by
    have h:=List.all_eq_true.1 n__ t (by rw[← Array.getElem?_toList] at ht;exact List.mem_of_getElem? ht)
    exact(show Tryz.prog.wantsStandIn t=false by simpa using h)⟩)
  e_
#print axioms ordersFolded
end Go.Proofs.YtekebdoegplamaaGreatDoor

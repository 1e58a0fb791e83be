/-
  PART 24 OF THE PROOF: St9 (no conditions).
-/
import Derived.Test.YtnoemfdfghfkoaaGreatDoorCL23
set_option linter.unusedSectionVars false
set_option linter.unusedSimpArgs false
set_option linter.unusedVariables false
set_option linter.constructorNameAsVariable false
set_option linter.defProp false
/-
 SET OF THE COMB,put together: which block it makes.
-/
set_option maxRecDepth 100000
namespace Go.Am
open Sx Go.Proofs
noncomputable def sc:KM1:=⟨5,[.v (.slice (some ⟨0,0,tag 3⟩) 120 0)],[(3,[.int .i64 0,.int .i64 0,.int .u8 0,.int .i64 0,.int .i64 1,.int .u8 0,.int .i64 1,.int .i64 0,.int .u8 0,.int .i64 2,.int .i64 0,.int .u8 0,.int .i64 2,.int .i64 1,.int .u8 0,.int .i64 3,.int .i64 0,.int .u8 0,.int .i64 4,.int .i64 0,.int .u8 0,.int .i64 4,.int .i64 1,.int .u8 0,.int .i64 5,.int .i64 0,.int .u8 0,.int .i64 6,.int .i64 0,.int .u8 0,.int .i64 6,.int .i64 1,.int .u8 0,.int .i64 7,.int .i64 0,.int .u8 0,.int .i64 8,.int .i64 0,.int .u8 0,.int .i64 8,.int .i64 1,.int .u8 0,.int .i64 9,.int .i64 0,.int .u8 0,.int .i64 10,.int .i64 0,.int .u8 0,.int .i64 10,.int .i64 1,.int .u8 0,.int .i64 11,.int .i64 0,.int .u8 0,.int .i64 12,.int .i64 0,.int .u8 0,.int .i64 12,.int .i64 1,.int .u8 0,.int .i64 13,.int .i64 0,.int .u8 0,.int .i64 14,.int .i64 0,.int .u8 0,.int .i64 14,.int .i64 1,.int .u8 0,.int .i64 15,.int .i64 0,.int .u8 0,.int .i64 16,.int .i64 0,.int .u8 0,.int .i64 16,.int .i64 1,.int .u8 0,.int .i64 17,.int .i64 0,.int .u8 0,.int .i64 18,.int .i64 0,.int .u8 0,.int .i64 18,.int .i64 1,.int .u8 0,.int .i64 19,.int .i64 0,.int .u8 0,.int .i64 20,.int .i64 0,.int .u8 0,.int .i64 20,.int .i64 1,.int .u8 0,.int .i64 21,.int .i64 0,.int .u8 0,.int .i64 22,.int .i64 0,.int .u8 0,.int .i64 22,.int .i64 1,.int .u8 0,.int .i64 23,.int .i64 0,.int .u8 0,.int .i64 24,.int .i64 0,.int .u8 0,.int .i64 24,.int .i64 1,.int .u8 0,.int .i64 25,.int .i64 0,.int .u8 0,.int .i64 26,.int .i64 0,.int .u8 0,.int .i64 26,.int .i64 1,.int .u8 0,.int .i64 27,.int .i64 0,.int .u8 0,.int .i64 28,.int .i64 0,.int .u8 0,.int .i64 28,.int .i64 1,.int .u8 0,.int .i64 29,.int .i64 0,.int .u8 0,.int .i64 30,.int .i64 0,.int .u8 0,.int .i64 30,.int .i64 1,.int .u8 0,.int .i64 31,.int .i64 0,.int .u8 0,.int .i64 32,.int .i64 0,.int .u8 0,.int .i64 32,.int .i64 1,.int .u8 0,.int .i64 33,.int .i64 0,.int .u8 0,.int .i64 34,.int .i64 0,.int .u8 0,.int .i64 34,.int .i64 1,.int .u8 0,.int .i64 35,.int .i64 0,.int .u8 0,.int .i64 36,.int .i64 0,.int .u8 0,.int .i64 36,.int .i64 1,.int .u8 0,.int .i64 37,.int .i64 0,.int .u8 0,.int .i64 38,.int .i64 0,.int .u8 0,.int .i64 38,.int .i64 1,.int .u8 0,.int .i64 39,.int .i64 0,.int .u8 0,.int .i64 40,.int .i64 0,.int .u8 0,.int .i64 40,.int .i64 1,.int .u8 0,.int .i64 41,.int .i64 0,.int .u8 0,.int .i64 42,.int .i64 0,.int .u8 0,.int .i64 42,.int .i64 1,.int .u8 0,.int .i64 43,.int .i64 0,.int .u8 0,.int .i64 44,.int .i64 0,.int .u8 0,.int .i64 44,.int .i64 1,.int .u8 0,.int .i64 45,.int .i64 0,.int .u8 0,.int .i64 46,.int .i64 0,.int .u8 0,.int .i64 46,.int .i64 1,.int .u8 0,.int .i64 47,.int .i64 0,.int .u8 0,.int .i64 48,.int .i64 0,.int .u8 0,.int .i64 48,.int .i64 1,.int .u8 0,.int .i64 49,.int .i64 0,.int .u8 0,.int .i64 50,.int .i64 0,.int .u8 0,.int .i64 50,.int .i64 1,.int .u8 0,.int .i64 51,.int .i64 0,.int .u8 0,.int .i64 52,.int .i64 0,.int .u8 0,.int .i64 52,.int .i64 1,.int .u8 0,.int .i64 53,.int .i64 0,.int .u8 0,.int .i64 54,.int .i64 0,.int .u8 0,.int .i64 54,.int .i64 1,.int .u8 0,.int .i64 55,.int .i64 0,.int .u8 0,.int .i64 56,.int .i64 0,.int .u8 0,.int .i64 56,.int .i64 1,.int .u8 0,.int .i64 57,.int .i64 0,.int .u8 0,.int .i64 58,.int .i64 0,.int .u8 0,.int .i64 58,.int .i64 1,.int .u8 0,.int .i64 59,.int .i64 0,.int .u8 0,.int .i64 60,.int .i64 0,.int .u8 0,.int .i64 60,.int .i64 1,.int .u8 0,.int .i64 61,.int .i64 0,.int .u8 0,.int .i64 62,.int .i64 0,.int .u8 0,.int .i64 62,.int .i64 1,.int .u8 0,.int .i64 63,.int .i64 0,.int .u8 0,.int .i64 64,.int .i64 0,.int .u8 0,.int .i64 64,.int .i64 1,.int .u8 0,.int .i64 65,.int .i64 0,.int .u8 0,.int .i64 66,.int .i64 0,.int .u8 0,.int .i64 66,.int .i64 1,.int .u8 0,.int .i64 67,.int .i64 0,.int .u8 0,.int .i64 68,.int .i64 0,.int .u8 0,.int .i64 68,.int .i64 1,.int .u8 0,.int .i64 69,.int .i64 0,.int .u8 0,.int .i64 70,.int .i64 0,.int .u8 0,.int .i64 70,.int .i64 1,.int .u8 0,.int .i64 71,.int .i64 0,.int .u8 0,.int .i64 72,.int .i64 0,.int .u8 0,.int .i64 72,.int .i64 1,.int .u8 0,.int .i64 73,.int .i64 0,.int .u8 0,.int .i64 74,.int .i64 0,.int .u8 0,.int .i64 74,.int .i64 1,.int .u8 0,.int .i64 75,.int .i64 0,.int .u8 0,.int .i64 76,.int .i64 0,.int .u8 0,.int .i64 76,.int .i64 1,.int .u8 0,.int .i64 77,.int .i64 0,.int .u8 0,.int .i64 78,.int .i64 0,.int .u8 0,.int .i64 78,.int .i64 1,.int .u8 0,.int .i64 79,.int .i64 0,.int .u8 0,.int .i64 79,.int .i64 1,.int .u8 0])],fun n=>[.v (.slice (some ⟨n,0,tag 3⟩) 480 0)],959,0,3,(List.range 1440).map (cbV 40)⟩
theorem jv:∀(t:Tr Value) (k:Tr Value→RT),nW t k=k t
 | .leaf,k=>rfl
 | .node v l r,k=>by
  show(lN v fun v=>nW l fun l=>nW r fun r=>k (.node v l r))=_
  rw[oE,jv l,jv r]
theorem de:∀(t:Tr HOT) (k:Tr HOT→RT),dw t k=k t
 | .leaf,k=>rfl
 | .node (.o x) l r,k=>by
  show(dw l fun l=>dw r fun r=>k (.node (.o x) l r))=_
  rw[de l,de r]
 | .node (.lp a b c d) l r,k=>by
  show(dw l fun l=>dw r fun r=>k (.node (.lp a b c d) l r))=_
  rw[de l,de r]
 | .node (.t n e rw' c) l r,k=>by
  show(nW c fun c=>dw l fun l=>dw r fun r=>k (.node (.t n e rw' c) l r))=_
  rw[jv,de l,de r]
theorem cutH{m:Nat}{G:HTr→RT}{y:RT}(h:(dw (cbH m).t fun t=>G ⟨961,t⟩)=y):G (cbH m)=y:=by
 rw[de]at h;exact h
theorem st0_ok:∀Kx:Value→HTr→RT,(mkBl sc.bl .empty fun h=>set1 cbA sc.ls h Kx)=Kx cbX (cbH 0):=fun Kx=>by kernel_rfl
theorem st7_ok:∀K:List Lf→HTr→RT,fW (set2 cbA cbX K) (fun _ _=>none) 999521 [.i (.ofNat 480)] (cbH 40)=K [.v cbX] (cbH 40):=fun K=>by kernel_rfl
theorem sc_chk:chkM sc [.v cbX] (cbH 40)=true:=by kernel_rfl
theorem sc_len:sc.blk.length=1:=by kernel_rfl
theorem sc_all(K:List Lf→HTr→RT):(mkBl sc.bl .empty fun h=>w5 (runF 60) sc.ls h K)=K [.v cbX] (cbH 40):=by
 have h1:(fun h=>w5 (runF 60) sc.ls h K)=fun h=>set1 cbA sc.ls h fun x h=>cbA.loop (set2 cbA x K) [(.i (.ofNat 1))] h:=funext fun h=>set_two cbA sc.ls h K
 rw[h1,st0_ok]
 have h2:cbA.loop=loopB:=rfl
 rw[h2,rA]
 rw[show(1000000:Nat)=999809+191 from rfl,df,cutH (st1_ok K _)]
 rw[show(999809:Nat)=999725+84 from rfl,df,cutH (st2_ok K _)]
 rw[show(999725:Nat)=999665+60 from rfl,df,cutH (st3_ok K _)]
 rw[show(999665:Nat)=999605+60 from rfl,df,cutH (st4_ok K _)]
 rw[show(999605:Nat)=999557+48 from rfl,df,cutH (st5_ok K _)]
 rw[show(999557:Nat)=999521+36 from rfl,df,cutH (st6_ok K _)]
 exact st7_ok K
theorem sc_ok:KMOk sc:=known_m (ok5 (bu 60)) rfl (aS (by kernel_rfl)) (fun τ n h=>by
  show [renL τ (.v (.slice (some ⟨960,0,tag 3⟩) 480 0))]=[.v (.slice (some ⟨n,0,tag 3⟩) 480 0)]
  have h:τ 960=n:=h
  rw[←h];rfl) (fun n hn l hl=>by
  obtain rfl:=List.mem_singleton.1 hl
  exact .inr ⟨960,0,480,0,3,by
   rw[sc_len]at hn
   have hn:1+959+1≤n:=hn
   omega,rfl⟩) (by kernel_rfl) (by rw[sc_all];exact(by rw[sc_chk];rfl))
end Go.Am


/-
  DERIVED. GIVEN WITH THE SEED: THE CARDS: each row of YtiimabnndpeioaaGreatDoorRows.lean that lists a variable, with what it lists TIED to the program's text (the seventh form; the later family's looks); each row that meets fmt, with fmt's text TOLD by the authors' own Lean function (tested against real Go, not proved from fmt's source: count such statements apart). THE CARD IS WHAT COUNTS. Prove the row's statement (the work); the ties are given (YtiimabnndpeioaaGreatDoorTie.lean); close each card by the builder's one call (the guide's Derived/Test/ToyasCard.lean, 'card_holds'). Laid BY PROGRAM, IN A SANDBOX (cutbox-door.mjs). By AI agents, Wed Nov 11 2026. No macro, syntax, notation, axiom, sorry.
-/
import Derived.Test.YtiimabnndpeioaaGreatDoorRows
import GoSem.ClaimSeven
namespace Go.Proofs.YtiimabnndpeioaaGreatDoor
namespace Rows

/-- THE TIED CARD OF 'crimplaw24.SeamsOf'. -/
def seamsOfCard : Claim7 := { stood := { row := seamsOfRow, standIns := [], harness := (true, "edb86d77ee08f959f7a783035cf63ca3931783d8bcc19440e6a885fd9ec8d4e9"), looks := false }, kinds := [], alts := [], laidByText := true, laidKinds := [.wider, .data], laidTests := true, laidLooks := .later }
def SeamsOfCardSaid : Prop := Claim7.holds Tryz.pinned (.plain (OpenSpec.ofChange seamsOfSpec)) seamsOfCard

/-- THE TIED CARD OF 'crimplaw24.SeamsCrosses'. -/
def seamsCrossesCard : Claim7 := { stood := { row := seamsCrossesRow, standIns := [], harness := (true, "edb86d77ee08f959f7a783035cf63ca3931783d8bcc19440e6a885fd9ec8d4e9"), looks := false }, kinds := [], alts := [], laidByText := true, laidKinds := [.wider, .data], laidTests := true, laidLooks := .later }
def SeamsCrossesCardSaid : Prop := Claim7.holds Tryz.pinned (.plain (OpenSpec.ofChange seamsCrossesSpec)) seamsCrossesCard

/-- THE TIED CARD OF 'crimplaw24.SeamsStacks'. -/
def seamsStacksCard : Claim7 := { stood := { row := seamsStacksRow, standIns := [], harness := (true, "edb86d77ee08f959f7a783035cf63ca3931783d8bcc19440e6a885fd9ec8d4e9"), looks := false }, kinds := [], alts := [], laidByText := true, laidKinds := [.wider, .data], laidTests := true, laidLooks := .later }
def SeamsStacksCardSaid : Prop := Claim7.holds Tryz.pinned (.plain (OpenSpec.ofChange seamsStacksSpec)) seamsStacksCard

/-- THE SECOND FORM's CARD OF 'crimplaw24.SeamsOf'. -/
def seamsOfUptoCard : Claim7 := { stood := { row := seamsOfUptoRow, standIns := [], harness := (true, "edb86d77ee08f959f7a783035cf63ca3931783d8bcc19440e6a885fd9ec8d4e9"), looks := false }, kinds := [], alts := [], laidByText := true, laidKinds := [.wider, .data], laidTests := true, laidLooks := .later }
def SeamsOfUptoCardSaid : Prop := Claim7.holds Tryz.pinned (.plain (OpenSpec.upto seamsOfSpec)) seamsOfUptoCard

/-- THE SECOND FORM's CARD OF 'crimplaw24.SeamsCrosses'. -/
def seamsCrossesUptoCard : Claim7 := { stood := { row := seamsCrossesUptoRow, standIns := [], harness := (true, "edb86d77ee08f959f7a783035cf63ca3931783d8bcc19440e6a885fd9ec8d4e9"), looks := false }, kinds := [], alts := [], laidByText := true, laidKinds := [.wider, .data], laidTests := true, laidLooks := .later }
def SeamsCrossesUptoCardSaid : Prop := Claim7.holds Tryz.pinned (.plain (OpenSpec.upto seamsCrossesSpec)) seamsCrossesUptoCard

/-- THE SECOND FORM's CARD OF 'crimplaw24.SeamsStacks'. -/
def seamsStacksUptoCard : Claim7 := { stood := { row := seamsStacksUptoRow, standIns := [], harness := (true, "edb86d77ee08f959f7a783035cf63ca3931783d8bcc19440e6a885fd9ec8d4e9"), looks := false }, kinds := [], alts := [], laidByText := true, laidKinds := [.wider, .data], laidTests := true, laidLooks := .later }
def SeamsStacksUptoCardSaid : Prop := Claim7.holds Tryz.pinned (.plain (OpenSpec.upto seamsStacksSpec)) seamsStacksUptoCard
end Rows
end Go.Proofs.YtiimabnndpeioaaGreatDoor

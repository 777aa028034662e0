/-
  DERIVED. GIVEN WITH THE SEED: THE CARDS: each row of YtbfghkhfiflibaaGreatDoorRows.lean that lists a variable, with what it lists TIED to the program's text (the seventh form; the later family's looks); each row that meets fmt, with fmt's text TOLD by the authors' own Lean function (tested against real Go, not proved from fmt's source: count such statements apart). THE CARD IS WHAT COUNTS. Prove the row's statement (the work); the ties are given (YtbfghkhfiflibaaGreatDoorTie.lean); close each card by the builder's one call (the guide's Derived/Test/ToyasCard.lean, 'card_holds'). Laid BY PROGRAM, IN A SANDBOX (cutbox-door.mjs). By AI agents, Wed Nov 11 2026. No macro, syntax, notation, axiom, sorry.
-/
import Derived.Test.YtbfghkhfiflibaaGreatDoorRows
import GoSem.ClaimSeven
namespace Go.Proofs.YtbfghkhfiflibaaGreatDoor
namespace Rows

/-- THE TIED CARD OF 'turnstilelaw17.IsaDecodes'. -/
def isaDecodesCard : Claim7 := { stood := { row := isaDecodesRow, standIns := [], harness := (true, "c2d4b0b96d10dbd2a2426c9e06ce404d5e36bb7ccdd91ec4e97f4fefb9fb6587"), looks := false }, kinds := [], alts := [], laidByText := true, laidKinds := [.data, .data, .data], laidTests := true, laidLooks := .later }
def IsaDecodesCardSaid : Prop := Claim7.holds Tryz.pinned (.plain (OpenSpec.ofChange isaDecodesSpec)) isaDecodesCard

/-- THE SECOND FORM's CARD OF 'turnstilelaw17.IsaDecodes'. -/
def isaDecodesUptoCard : Claim7 := { stood := { row := isaDecodesUptoRow, standIns := [], harness := (true, "c2d4b0b96d10dbd2a2426c9e06ce404d5e36bb7ccdd91ec4e97f4fefb9fb6587"), looks := false }, kinds := [], alts := [], laidByText := true, laidKinds := [.data, .data, .data], laidTests := true, laidLooks := .later }
def IsaDecodesUptoCardSaid : Prop := Claim7.holds Tryz.pinned (.plain (OpenSpec.upto isaDecodesSpec)) isaDecodesUptoCard
end Rows
end Go.Proofs.YtbfghkhfiflibaaGreatDoor

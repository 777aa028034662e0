/-
  DERIVED. GIVEN WITH THE SEED: THE CARDS: each row of YtgodmogkhgilmaaGreatDoorRows.lean that lists a variable, with what it lists TIED to the program's text (the seventh form; the later family's looks); each row that meets fmt, with fmt's text TOLD by the authors' own Lean function (tested against real Go, not proved from fmt's source: count such statements apart). THE CARD IS WHAT COUNTS. Prove the row's statement (the work); the ties are given (YtgodmogkhgilmaaGreatDoorTie.lean); close each card by the builder's one call (the guide's Derived/Test/ToyasCard.lean, 'card_holds'). Laid BY PROGRAM, IN A SANDBOX (cutbox-door.mjs). By AI agents, Wed Nov 11 2026. No macro, syntax, notation, axiom, sorry.
-/
import Derived.Test.YtgodmogkhgilmaaGreatDoorRows
import GoSem.ClaimSeven
namespace Go.Proofs.YtgodmogkhgilmaaGreatDoor
namespace Rows

/-- THE TIED CARD OF 'turnstilelaw25.BarrierImages'. -/
def barrierImagesCard : Claim7 := { stood := { row := barrierImagesRow, standIns := [], harness := (true, "32f18893d080cef06d04a9f69aa9ca822792245abb83074d08e6c7d8b11e9e5b"), looks := true }, kinds := [], alts := [], laidByText := true, laidKinds := [.data, .data, .data], laidTests := true, laidLooks := .later }
def BarrierImagesCardSaid : Prop := Claim7.holds Tryz.pinned (.plain (OpenSpec.ofChange barrierImagesSpec)) barrierImagesCard

/-- THE SECOND FORM's CARD OF 'turnstilelaw25.BarrierImages'. -/
def barrierImagesUptoCard : Claim7 := { stood := { row := barrierImagesUptoRow, standIns := [], harness := (true, "32f18893d080cef06d04a9f69aa9ca822792245abb83074d08e6c7d8b11e9e5b"), looks := true }, kinds := [], alts := [], laidByText := true, laidKinds := [.data, .data, .data], laidTests := true, laidLooks := .later }
def BarrierImagesUptoCardSaid : Prop := Claim7.holds Tryz.pinned (.plain (OpenSpec.upto barrierImagesSpec)) barrierImagesUptoCard
end Rows
end Go.Proofs.YtgodmogkhgilmaaGreatDoor

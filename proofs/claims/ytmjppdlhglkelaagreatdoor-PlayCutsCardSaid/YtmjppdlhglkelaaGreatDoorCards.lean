/-
  DERIVED. GIVEN WITH THE SEED: THE CARDS: each row of YtmjppdlhglkelaaGreatDoorRows.lean that lists a variable, with what it lists TIED to the program's text (the seventh form; the later family's looks); each row that meets fmt, with fmt's text TOLD by the authors' own Lean function (tested against real Go, not proved from fmt's source: count such statements apart). THE CARD IS WHAT COUNTS. Prove the row's statement (the work); the ties are given (YtmjppdlhglkelaaGreatDoorTie.lean); close each card by the builder's one call (the guide's Derived/Test/ToyasCard.lean, 'card_holds'). Laid BY PROGRAM, IN A SANDBOX (cutbox-door.mjs). By AI agents, Wed Nov 11 2026. No macro, syntax, notation, axiom, sorry.
-/
import Derived.Test.YtmjppdlhglkelaaGreatDoorRows
import GoSem.ClaimSeven
namespace Go.Proofs.YtmjppdlhglkelaaGreatDoor
namespace Rows

/-- THE TIED CARD OF 'turnstilelaw21.PlayCuts'. -/
def playCutsCard : Claim7 := { stood := { row := playCutsRow, standIns := [], harness := (true, "e9e371aaa88f9de604ae658022a35223dd40a1e7805dec7f4d0de3d51795ea84"), looks := true }, kinds := [], alts := [], laidByText := true, laidKinds := [.data, .data, .data], laidTests := true, laidLooks := .later }
def PlayCutsCardSaid : Prop := Claim7.holds Tryz.pinned (.plain (OpenSpec.ofChange playCutsSpec)) playCutsCard

/-- THE SECOND FORM's CARD OF 'turnstilelaw21.PlayCuts'. -/
def playCutsUptoCard : Claim7 := { stood := { row := playCutsUptoRow, standIns := [], harness := (true, "e9e371aaa88f9de604ae658022a35223dd40a1e7805dec7f4d0de3d51795ea84"), looks := true }, kinds := [], alts := [], laidByText := true, laidKinds := [.data, .data, .data], laidTests := true, laidLooks := .later }
def PlayCutsUptoCardSaid : Prop := Claim7.holds Tryz.pinned (.plain (OpenSpec.upto playCutsSpec)) playCutsUptoCard
end Rows
end Go.Proofs.YtmjppdlhglkelaaGreatDoor

/-
  DERIVED. GIVEN WITH THE SEED: THE CARDS: each row of YthmmbldhbdnfpaaGreatDoorRows.lean that lists a variable, with what it lists TIED to the program's text (the seventh form; the later family's looks); each row that meets fmt, with fmt's text TOLD by the authors' own Lean function (tested against real Go, not proved from fmt's source: count such statements apart). THE CARD IS WHAT COUNTS. Prove the row's statement (the work); the ties are given (YthmmbldhbdnfpaaGreatDoorTie.lean); close each card by the builder's one call (the guide's Derived/Test/ToyasCard.lean, 'card_holds'). Laid BY PROGRAM, IN A SANDBOX (cutbox-door.mjs). By AI agents, Wed Nov 11 2026. No macro, syntax, notation, axiom, sorry.
-/
import Derived.Test.YthmmbldhbdnfpaaGreatDoorRows
import GoSem.ClaimSeven
namespace Go.Proofs.YthmmbldhbdnfpaaGreatDoor
namespace Rows

/-- THE TIED CARD OF 'turnstilelaw20.TsoPlays'. -/
def tsoPlaysCard : Claim7 := { stood := { row := tsoPlaysRow, standIns := [], harness := (true, "4a177f99e2a3e9605b8e463ee5c267cdaf268210256edf41a2c76192f98357a0"), looks := true }, kinds := [], alts := [], laidByText := true, laidKinds := [.data, .data, .data], laidTests := true, laidLooks := .later }
def TsoPlaysCardSaid : Prop := Claim7.holds Tryz.pinned (.plain (OpenSpec.ofChange tsoPlaysSpec)) tsoPlaysCard

/-- THE TIED CARD OF 'turnstilelaw21.PlayRuns'. -/
def playRunsCard : Claim7 := { stood := { row := playRunsRow, standIns := [], harness := (true, "4a177f99e2a3e9605b8e463ee5c267cdaf268210256edf41a2c76192f98357a0"), looks := true }, kinds := [], alts := [], laidByText := true, laidKinds := [.data, .data, .data], laidTests := true, laidLooks := .later }
def PlayRunsCardSaid : Prop := Claim7.holds Tryz.pinned (.plain (OpenSpec.ofChange playRunsSpec)) playRunsCard

/-- THE SECOND FORM's CARD OF 'turnstilelaw20.TsoPlays'. -/
def tsoPlaysUptoCard : Claim7 := { stood := { row := tsoPlaysUptoRow, standIns := [], harness := (true, "4a177f99e2a3e9605b8e463ee5c267cdaf268210256edf41a2c76192f98357a0"), looks := true }, kinds := [], alts := [], laidByText := true, laidKinds := [.data, .data, .data], laidTests := true, laidLooks := .later }
def TsoPlaysUptoCardSaid : Prop := Claim7.holds Tryz.pinned (.plain (OpenSpec.upto tsoPlaysSpec)) tsoPlaysUptoCard

/-- THE SECOND FORM's CARD OF 'turnstilelaw21.PlayRuns'. -/
def playRunsUptoCard : Claim7 := { stood := { row := playRunsUptoRow, standIns := [], harness := (true, "4a177f99e2a3e9605b8e463ee5c267cdaf268210256edf41a2c76192f98357a0"), looks := true }, kinds := [], alts := [], laidByText := true, laidKinds := [.data, .data, .data], laidTests := true, laidLooks := .later }
def PlayRunsUptoCardSaid : Prop := Claim7.holds Tryz.pinned (.plain (OpenSpec.upto playRunsSpec)) playRunsUptoCard
end Rows
end Go.Proofs.YthmmbldhbdnfpaaGreatDoor

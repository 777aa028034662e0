/-
  DERIVED. GIVEN WITH THE SEED: THE CARDS: each row of YtilkpmjkiohfdaaGreatDoorRows.lean that lists a variable, with what it lists TIED to the program's text (the seventh form; the later family's looks); each row that meets fmt, with fmt's text TOLD by the authors' own Lean function (tested against real Go, not proved from fmt's source: count such statements apart). THE CARD IS WHAT COUNTS. Prove the row's statement (the work); the ties are given (YtilkpmjkiohfdaaGreatDoorTie.lean); close each card by the builder's one call (the guide's Derived/Test/ToyasCard.lean, 'card_holds'). Laid BY PROGRAM, IN A SANDBOX (cutbox-door.mjs). By AI agents, Wed Nov 11 2026. No macro, syntax, notation, axiom, sorry.
-/
import Derived.Test.YtilkpmjkiohfdaaGreatDoorRows
import GoSem.ClaimSeven
namespace Go.Proofs.YtilkpmjkiohfdaaGreatDoor
namespace Rows

/-- THE TIED CARD OF 'turnstilelaw23.PlanMakes'. -/
def planMakesCard : Claim7 := { stood := { row := planMakesRow, standIns := [], harness := (true, "b4f3ace6591bb9ec2522be6e8d2d5a5d050e9def2e9a9eb7db1d9dd3bac1af1f"), looks := false }, kinds := [], alts := [], laidByText := true, laidKinds := [.data, .data, .data], laidTests := true, laidLooks := .later }
def PlanMakesCardSaid : Prop := Claim7.holds Tryz.pinned (.plain (OpenSpec.ofChange planMakesSpec)) planMakesCard

/-- THE TIED CARD OF 'turnstilelaw19.BufferPlays'. -/
def bufferPlaysCard : Claim7 := { stood := { row := bufferPlaysRow, standIns := [], harness := (true, "b4f3ace6591bb9ec2522be6e8d2d5a5d050e9def2e9a9eb7db1d9dd3bac1af1f"), looks := false }, kinds := [], alts := [], laidByText := true, laidKinds := [.data, .data, .data], laidTests := true, laidLooks := .later }
def BufferPlaysCardSaid : Prop := Claim7.holds Tryz.pinned (.plain (OpenSpec.ofChange bufferPlaysSpec)) bufferPlaysCard

/-- THE TIED CARD OF 'turnstilelaw28.HistoryTells'. -/
def historyTellsCard : Claim7 := { stood := { row := historyTellsRow, standIns := [], harness := (true, "b4f3ace6591bb9ec2522be6e8d2d5a5d050e9def2e9a9eb7db1d9dd3bac1af1f"), looks := false }, kinds := [], alts := [], laidByText := true, laidKinds := [.data, .data, .data], laidTests := true, laidLooks := .later }
def HistoryTellsCardSaid : Prop := Claim7.holds Tryz.pinned (.plain (OpenSpec.ofChange historyTellsSpec)) historyTellsCard

/-- THE TIED CARD OF 'turnstilelaw24.TlRuns'. -/
def tlRunsCard : Claim7 := { stood := { row := tlRunsRow, standIns := [], harness := (true, "b4f3ace6591bb9ec2522be6e8d2d5a5d050e9def2e9a9eb7db1d9dd3bac1af1f"), looks := false }, kinds := [], alts := [], laidByText := true, laidKinds := [.data, .data, .data], laidTests := true, laidLooks := .later }
def TlRunsCardSaid : Prop := Claim7.holds Tryz.pinned (.plain (OpenSpec.ofChange tlRunsSpec)) tlRunsCard

/-- THE SECOND FORM's CARD OF 'turnstilelaw23.PlanMakes'. -/
def planMakesUptoCard : Claim7 := { stood := { row := planMakesUptoRow, standIns := [], harness := (true, "b4f3ace6591bb9ec2522be6e8d2d5a5d050e9def2e9a9eb7db1d9dd3bac1af1f"), looks := false }, kinds := [], alts := [], laidByText := true, laidKinds := [.data, .data, .data], laidTests := true, laidLooks := .later }
def PlanMakesUptoCardSaid : Prop := Claim7.holds Tryz.pinned (.plain (OpenSpec.upto planMakesSpec)) planMakesUptoCard

/-- THE SECOND FORM's CARD OF 'turnstilelaw19.BufferPlays'. -/
def bufferPlaysUptoCard : Claim7 := { stood := { row := bufferPlaysUptoRow, standIns := [], harness := (true, "b4f3ace6591bb9ec2522be6e8d2d5a5d050e9def2e9a9eb7db1d9dd3bac1af1f"), looks := false }, kinds := [], alts := [], laidByText := true, laidKinds := [.data, .data, .data], laidTests := true, laidLooks := .later }
def BufferPlaysUptoCardSaid : Prop := Claim7.holds Tryz.pinned (.plain (OpenSpec.upto bufferPlaysSpec)) bufferPlaysUptoCard

/-- THE SECOND FORM's CARD OF 'turnstilelaw28.HistoryTells'. -/
def historyTellsUptoCard : Claim7 := { stood := { row := historyTellsUptoRow, standIns := [], harness := (true, "b4f3ace6591bb9ec2522be6e8d2d5a5d050e9def2e9a9eb7db1d9dd3bac1af1f"), looks := false }, kinds := [], alts := [], laidByText := true, laidKinds := [.data, .data, .data], laidTests := true, laidLooks := .later }
def HistoryTellsUptoCardSaid : Prop := Claim7.holds Tryz.pinned (.plain (OpenSpec.upto historyTellsSpec)) historyTellsUptoCard

/-- THE SECOND FORM's CARD OF 'turnstilelaw24.TlRuns'. -/
def tlRunsUptoCard : Claim7 := { stood := { row := tlRunsUptoRow, standIns := [], harness := (true, "b4f3ace6591bb9ec2522be6e8d2d5a5d050e9def2e9a9eb7db1d9dd3bac1af1f"), looks := false }, kinds := [], alts := [], laidByText := true, laidKinds := [.data, .data, .data], laidTests := true, laidLooks := .later }
def TlRunsUptoCardSaid : Prop := Claim7.holds Tryz.pinned (.plain (OpenSpec.upto tlRunsSpec)) tlRunsUptoCard
end Rows
end Go.Proofs.YtilkpmjkiohfdaaGreatDoor

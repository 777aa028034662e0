/-
  No cell of these rows narrows 'for every input' (looked for: loops, veiled, ifaces, maps, wideKeys, modest, calm, conditions, laid).
  DERIVED. THE GIVEN ROWS OF THIS SEAT. 5 by the template 'for every input the law returns true; each argument reads behind the call as it read before'; 0 by the template 'total and deterministic' (their statements: YtopdcjimpdalpaaGreatTotals.lean).
  GIVEN WITH THE SEED: the statements are not yours to turn. If you find one false, say at which input.
  Laid BY PROGRAM, IN A SANDBOX (cutbox-rows.mjs): the forced cells as the released guide's own fill.sh prints them over the translation 5bbe4f613dee9b1b… (all of the seat's roots in one cut). By AI agents, Wed Nov 11 2026. No macro, syntax, notation, axiom, sorry.
-/
import Derived.Test.YtopdcjimpdalpaaGreatChecked
import GoSem.Claim
import GoSem.ClaimJoined
import GoSem.ClaimMapViews
import Derived.JoinedTies
import Derived.KernelRfl
namespace Go.Proofs.YtopdcjimpdalpaaGreat
/- THE CELL 'sum', in the pinned program and in every row, IS THE sha256 OF THE DUMP (.gsa) THAT YtopdcjimpdalpaaGreatProg.lean LOADS. Nothing in Lean hashes anything: it is a label: what it is worth is what the hold of that sum in a sandbox is worth. -/
noncomputable def Tryz.pinned : Pinned := { name := "ytopdcjimpdalpaagreat", sum := "5bbe4f613dee9b1b8c67c658079fe0d4e66c33437e4e4030601384816c635d76", checked := Tryz.checked }
namespace Rows
def none {H : Type} : Left H := { results := [], args := [] }

/-- 'turnstilelaw25.BarrierGoes': WHATEVER THE INPUT: true; the input reads as it did. -/
def barrierGoesSpec : ChangeSpec := { name := "barrierGoes", fn := fun _ => fun
  | [d1, d2, d3, d4] => { results := [.lit (.bool true)], args := [d1, d2, d3, d4] }
  | _ => none }
def barrierGoesRow : OpenClaim := { program := "ytopdcjimpdalpaagreat", sum := "5bbe4f613dee9b1b8c67c658079fe0d4e66c33437e4e4030601384816c635d76", func := "turnstile/turnstilelaw25.BarrierGoes", spec := "barrierGoes", unfollowed := true, recurses := true, apart := false }
def BarrierGoesSaid : Prop := barrierGoesRow.holds Tryz.pinned (OpenSpec.ofChange barrierGoesSpec)

/-- ITS FALSE NEIGHBOUR: 'it returns false'. Refute it at one input. -/
def barrierGoesWrong : ChangeSpec := { name := "barrierGoes", fn := fun _ => fun
  | [d1, d2, d3, d4] => { results := [.lit (.bool false)], args := [d1, d2, d3, d4] }
  | _ => none }
def BarrierGoesWrongFalsely : Prop := barrierGoesRow.holds Tryz.pinned (OpenSpec.ofChange barrierGoesWrong)

/-- 'turnstilelaw25.BarrierSerial': WHATEVER THE INPUT: true; the input reads as it did. -/
def barrierSerialSpec : ChangeSpec := { name := "barrierSerial", fn := fun _ => fun
  | [d1, d2, d3] => { results := [.lit (.bool true)], args := [d1, d2, d3] }
  | _ => none }
def barrierSerialRow : OpenClaim := { program := "ytopdcjimpdalpaagreat", sum := "5bbe4f613dee9b1b8c67c658079fe0d4e66c33437e4e4030601384816c635d76", func := "turnstile/turnstilelaw25.BarrierSerial", spec := "barrierSerial", unfollowed := true, recurses := true, apart := false }
def BarrierSerialSaid : Prop := barrierSerialRow.holds Tryz.pinned (OpenSpec.ofChange barrierSerialSpec)

/-- ITS FALSE NEIGHBOUR: 'it returns false'. Refute it at one input. -/
def barrierSerialWrong : ChangeSpec := { name := "barrierSerial", fn := fun _ => fun
  | [d1, d2, d3] => { results := [.lit (.bool false)], args := [d1, d2, d3] }
  | _ => none }
def BarrierSerialWrongFalsely : Prop := barrierSerialRow.holds Tryz.pinned (OpenSpec.ofChange barrierSerialWrong)

/-- 'turnstilelaw25.BarrierRows': WHATEVER THE INPUT: true; the input reads as it did. -/
def barrierRowsSpec : ChangeSpec := { name := "barrierRows", fn := fun _ => fun
  | [d1, d2, d3] => { results := [.lit (.bool true)], args := [d1, d2, d3] }
  | _ => none }
def barrierRowsRow : OpenClaim := { program := "ytopdcjimpdalpaagreat", sum := "5bbe4f613dee9b1b8c67c658079fe0d4e66c33437e4e4030601384816c635d76", func := "turnstile/turnstilelaw25.BarrierRows", spec := "barrierRows", unfollowed := true, recurses := true, apart := false }
def BarrierRowsSaid : Prop := barrierRowsRow.holds Tryz.pinned (OpenSpec.ofChange barrierRowsSpec)

/-- ITS FALSE NEIGHBOUR: 'it returns false'. Refute it at one input. -/
def barrierRowsWrong : ChangeSpec := { name := "barrierRows", fn := fun _ => fun
  | [d1, d2, d3] => { results := [.lit (.bool false)], args := [d1, d2, d3] }
  | _ => none }
def BarrierRowsWrongFalsely : Prop := barrierRowsRow.holds Tryz.pinned (OpenSpec.ofChange barrierRowsWrong)

/-- 'turnstilelaw25.BarrierStraight': WHATEVER THE INPUT: true; the input reads as it did. -/
def barrierStraightSpec : ChangeSpec := { name := "barrierStraight", fn := fun _ => fun
  | [d1, d2, d3] => { results := [.lit (.bool true)], args := [d1, d2, d3] }
  | _ => none }
def barrierStraightRow : OpenClaim := { program := "ytopdcjimpdalpaagreat", sum := "5bbe4f613dee9b1b8c67c658079fe0d4e66c33437e4e4030601384816c635d76", func := "turnstile/turnstilelaw25.BarrierStraight", spec := "barrierStraight", unfollowed := true, recurses := true, apart := false }
def BarrierStraightSaid : Prop := barrierStraightRow.holds Tryz.pinned (OpenSpec.ofChange barrierStraightSpec)

/-- ITS FALSE NEIGHBOUR: 'it returns false'. Refute it at one input. -/
def barrierStraightWrong : ChangeSpec := { name := "barrierStraight", fn := fun _ => fun
  | [d1, d2, d3] => { results := [.lit (.bool false)], args := [d1, d2, d3] }
  | _ => none }
def BarrierStraightWrongFalsely : Prop := barrierStraightRow.holds Tryz.pinned (OpenSpec.ofChange barrierStraightWrong)

/-- 'turnstilelaw25.BarrierNames': WHATEVER THE INPUT: true; the input reads as it did. -/
def barrierNamesSpec : ChangeSpec := { name := "barrierNames", fn := fun _ => fun
  | [] => { results := [.lit (.bool true)], args := [] }
  | _ => none }
def barrierNamesRow : OpenClaim := { program := "ytopdcjimpdalpaagreat", sum := "5bbe4f613dee9b1b8c67c658079fe0d4e66c33437e4e4030601384816c635d76", func := "turnstile/turnstilelaw25.BarrierNames", spec := "barrierNames", unfollowed := true, recurses := true, apart := false }
def BarrierNamesSaid : Prop := barrierNamesRow.holds Tryz.pinned (OpenSpec.ofChange barrierNamesSpec)

/-- ITS FALSE NEIGHBOUR: 'it returns false'. Refute it at one input. -/
def barrierNamesWrong : ChangeSpec := { name := "barrierNames", fn := fun _ => fun
  | [] => { results := [.lit (.bool false)], args := [] }
  | _ => none }
def BarrierNamesWrongFalsely : Prop := barrierNamesRow.holds Tryz.pinned (OpenSpec.ofChange barrierNamesWrong)

/- THE SECOND FORM. 'bulk': how many values and letters a reading holds, each counted each time it is reached (what is shared counts as often as it is met; a slice's spare places count too). A statement '..UptoSaid' is the law's where the arguments, and the package variables that the reading takes, are together of bulk at most 1048576: NARROWER than '..Said'. Prove '..Said' where nothing that the law and all that it calls make is longer than what came in: it says more and counts as full. Else prove '..UptoSaid'. A law counts once. -/
mutual
def uptoBulk {H : Type} : DataW H → Nat
  | .lit (.string bytes) => bytes.length + 1
  | .lit _ => 1
  | .nil => 1
  | .ptr d => uptoBulk d + 1
  | .slice elems spare => uptoBulkAll elems + uptoBulkAll spare + 1
  | .agg parts => uptoBulkAll parts + 1
  | .iface _ d => uptoBulk d + 1
  | .map entries => uptoBulkEntries entries + 1
  | .held _ => 1
def uptoBulkAll {H : Type} : List (DataW H) → Nat
  | [] => 0
  | d :: r => uptoBulk d + uptoBulkAll r
def uptoBulkEntries {H : Type} : List (Lit × DataW H) → Nat
  | [] => 0
  | x :: r => uptoBulkEntry x + uptoBulkEntries r
def uptoBulkEntry {H : Type} : Lit × DataW H → Nat
  | (.string bytes, d) => bytes.length + uptoBulk d + 1
  | (_, d) => uptoBulk d + 1
 end
def uptoSmall : (H : Type) → List (DataW H) → Bool := fun _ ds => decide (uptoBulkAll ds ≤ 1048576)
def OpenSpec.upto (s : _root_.Go.ChangeSpec) : _root_.Go.OpenSpec := { _root_.Go.OpenSpec.ofChange s with cond := some uptoSmall }

/-- 'turnstilelaw25.BarrierGoes', WHERE WHAT IT READS IS OF BULK AT MOST 1048576: true; the input reads as it did. -/
def barrierGoesUptoRow : OpenClaim := { program := "ytopdcjimpdalpaagreat", sum := "5bbe4f613dee9b1b8c67c658079fe0d4e66c33437e4e4030601384816c635d76", func := "turnstile/turnstilelaw25.BarrierGoes", spec := "barrierGoes", unfollowed := true, recurses := true, apart := false, narrowed := true }
def BarrierGoesUptoSaid : Prop := barrierGoesUptoRow.holds Tryz.pinned (OpenSpec.upto barrierGoesSpec)

/-- 'turnstilelaw25.BarrierSerial', WHERE WHAT IT READS IS OF BULK AT MOST 1048576: true; the input reads as it did. -/
def barrierSerialUptoRow : OpenClaim := { program := "ytopdcjimpdalpaagreat", sum := "5bbe4f613dee9b1b8c67c658079fe0d4e66c33437e4e4030601384816c635d76", func := "turnstile/turnstilelaw25.BarrierSerial", spec := "barrierSerial", unfollowed := true, recurses := true, apart := false, narrowed := true }
def BarrierSerialUptoSaid : Prop := barrierSerialUptoRow.holds Tryz.pinned (OpenSpec.upto barrierSerialSpec)

/-- 'turnstilelaw25.BarrierRows', WHERE WHAT IT READS IS OF BULK AT MOST 1048576: true; the input reads as it did. -/
def barrierRowsUptoRow : OpenClaim := { program := "ytopdcjimpdalpaagreat", sum := "5bbe4f613dee9b1b8c67c658079fe0d4e66c33437e4e4030601384816c635d76", func := "turnstile/turnstilelaw25.BarrierRows", spec := "barrierRows", unfollowed := true, recurses := true, apart := false, narrowed := true }
def BarrierRowsUptoSaid : Prop := barrierRowsUptoRow.holds Tryz.pinned (OpenSpec.upto barrierRowsSpec)

/-- 'turnstilelaw25.BarrierStraight', WHERE WHAT IT READS IS OF BULK AT MOST 1048576: true; the input reads as it did. -/
def barrierStraightUptoRow : OpenClaim := { program := "ytopdcjimpdalpaagreat", sum := "5bbe4f613dee9b1b8c67c658079fe0d4e66c33437e4e4030601384816c635d76", func := "turnstile/turnstilelaw25.BarrierStraight", spec := "barrierStraight", unfollowed := true, recurses := true, apart := false, narrowed := true }
def BarrierStraightUptoSaid : Prop := barrierStraightUptoRow.holds Tryz.pinned (OpenSpec.upto barrierStraightSpec)

/-- 'turnstilelaw25.BarrierNames', WHERE WHAT IT READS IS OF BULK AT MOST 1048576: true; the input reads as it did. -/
def barrierNamesUptoRow : OpenClaim := { program := "ytopdcjimpdalpaagreat", sum := "5bbe4f613dee9b1b8c67c658079fe0d4e66c33437e4e4030601384816c635d76", func := "turnstile/turnstilelaw25.BarrierNames", spec := "barrierNames", unfollowed := true, recurses := true, apart := false, narrowed := true }
def BarrierNamesUptoSaid : Prop := barrierNamesUptoRow.holds Tryz.pinned (OpenSpec.upto barrierNamesSpec)

end Rows
end Go.Proofs.YtopdcjimpdalpaaGreat

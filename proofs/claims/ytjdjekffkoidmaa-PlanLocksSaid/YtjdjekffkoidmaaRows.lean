/-
  No cell of these rows narrows 'for every input' (looked for: loops, veiled, ifaces, maps, wideKeys, modest, calm, conditions, laid).
  DERIVED. THE GIVEN ROWS OF THIS SEAT. 5 by the template 'for every input the law returns true; each argument reads behind the call as it read before'; 0 by the template 'total and deterministic' (their statements: YtjdjekffkoidmaaTotals.lean).
  GIVEN WITH THE SEED: the statements are not yours to turn. If you find one false, say at which input.
  Laid BY PROGRAM, IN A SANDBOX (cutbox-rows.mjs): the forced cells as the released guide's own fill.sh prints them over the translation ce1b43b350ddc3d5… (all of the seat's roots in one cut). By AI agents, Wed Nov 11 2026. No macro, syntax, notation, axiom, sorry.
-/
import Derived.Test.YtjdjekffkoidmaaChecked
import GoSem.Claim
import GoSem.ClaimJoined
import GoSem.ClaimMapViews
import Derived.JoinedTies
import Derived.KernelRfl
namespace Go.Proofs.Ytjdjekffkoidmaa
/- THE CELL 'sum', in the pinned program and in every row, IS THE sha256 OF THE DUMP (.gsa) THAT YtjdjekffkoidmaaProg.lean LOADS. Nothing in Lean hashes anything: it is a label: what it is worth is what the hold of that sum in a sandbox is worth. -/
noncomputable def Try.pinned : Pinned := { name := "ytjdjekffkoidmaa", sum := "ce1b43b350ddc3d57424feb7b3a6a8b82341645254e0da56298e613602d1dff1", checked := Try.checked }
namespace Rows
def none {H : Type} : Left H := { results := [], args := [] }

/-- 'turnstilelaw23.PlanParts': WHATEVER THE INPUT: true; the input reads as it did. -/
def planPartsSpec : ChangeSpec := { name := "planParts", fn := fun _ => fun
  | [d1, d2] => { results := [.lit (.bool true)], args := [d1, d2] }
  | _ => none }
def planPartsRow : OpenClaim := { program := "ytjdjekffkoidmaa", sum := "ce1b43b350ddc3d57424feb7b3a6a8b82341645254e0da56298e613602d1dff1", func := "turnstile/turnstilelaw23.PlanParts", spec := "planParts", unfollowed := true, recurses := true, apart := false }
def PlanPartsSaid : Prop := planPartsRow.holds Try.pinned (OpenSpec.ofChange planPartsSpec)

/-- ITS FALSE NEIGHBOUR: 'it returns false'. Refute it at one input. -/
def planPartsWrong : ChangeSpec := { name := "planParts", fn := fun _ => fun
  | [d1, d2] => { results := [.lit (.bool false)], args := [d1, d2] }
  | _ => none }
def PlanPartsWrongFalsely : Prop := planPartsRow.holds Try.pinned (OpenSpec.ofChange planPartsWrong)

/-- 'turnstilelaw23.PlanStripes': WHATEVER THE INPUT: true; the input reads as it did. -/
def planStripesSpec : ChangeSpec := { name := "planStripes", fn := fun _ => fun
  | [d1, d2, d3] => { results := [.lit (.bool true)], args := [d1, d2, d3] }
  | _ => none }
def planStripesRow : OpenClaim := { program := "ytjdjekffkoidmaa", sum := "ce1b43b350ddc3d57424feb7b3a6a8b82341645254e0da56298e613602d1dff1", func := "turnstile/turnstilelaw23.PlanStripes", spec := "planStripes", unfollowed := true, recurses := true, apart := false }
def PlanStripesSaid : Prop := planStripesRow.holds Try.pinned (OpenSpec.ofChange planStripesSpec)

/-- ITS FALSE NEIGHBOUR: 'it returns false'. Refute it at one input. -/
def planStripesWrong : ChangeSpec := { name := "planStripes", fn := fun _ => fun
  | [d1, d2, d3] => { results := [.lit (.bool false)], args := [d1, d2, d3] }
  | _ => none }
def PlanStripesWrongFalsely : Prop := planStripesRow.holds Try.pinned (OpenSpec.ofChange planStripesWrong)

/-- 'turnstilelaw23.PlanLocks': WHATEVER THE INPUT: true; the input reads as it did. -/
def planLocksSpec : ChangeSpec := { name := "planLocks", fn := fun _ => fun
  | [d1, d2, d3] => { results := [.lit (.bool true)], args := [d1, d2, d3] }
  | _ => none }
def planLocksRow : OpenClaim := { program := "ytjdjekffkoidmaa", sum := "ce1b43b350ddc3d57424feb7b3a6a8b82341645254e0da56298e613602d1dff1", func := "turnstile/turnstilelaw23.PlanLocks", spec := "planLocks", unfollowed := true, recurses := true, apart := false }
def PlanLocksSaid : Prop := planLocksRow.holds Try.pinned (OpenSpec.ofChange planLocksSpec)

/-- ITS FALSE NEIGHBOUR: 'it returns false'. Refute it at one input. -/
def planLocksWrong : ChangeSpec := { name := "planLocks", fn := fun _ => fun
  | [d1, d2, d3] => { results := [.lit (.bool false)], args := [d1, d2, d3] }
  | _ => none }
def PlanLocksWrongFalsely : Prop := planLocksRow.holds Try.pinned (OpenSpec.ofChange planLocksWrong)

/-- 'turnstilelaw23.PlanSays': WHATEVER THE INPUT: true; the input reads as it did. -/
def planSaysSpec : ChangeSpec := { name := "planSays", fn := fun _ => fun
  | [d1, d2] => { results := [.lit (.bool true)], args := [d1, d2] }
  | _ => none }
def planSaysRow : OpenClaim := { program := "ytjdjekffkoidmaa", sum := "ce1b43b350ddc3d57424feb7b3a6a8b82341645254e0da56298e613602d1dff1", func := "turnstile/turnstilelaw23.PlanSays", spec := "planSays", unfollowed := true, recurses := true, apart := false }
def PlanSaysSaid : Prop := planSaysRow.holds Try.pinned (OpenSpec.ofChange planSaysSpec)

/-- ITS FALSE NEIGHBOUR: 'it returns false'. Refute it at one input. -/
def planSaysWrong : ChangeSpec := { name := "planSays", fn := fun _ => fun
  | [d1, d2] => { results := [.lit (.bool false)], args := [d1, d2] }
  | _ => none }
def PlanSaysWrongFalsely : Prop := planSaysRow.holds Try.pinned (OpenSpec.ofChange planSaysWrong)

/-- 'turnstilelaw23.PlanNames': WHATEVER THE INPUT: true; the input reads as it did. -/
def planNamesSpec : ChangeSpec := { name := "planNames", fn := fun _ => fun
  | [] => { results := [.lit (.bool true)], args := [] }
  | _ => none }
def planNamesRow : OpenClaim := { program := "ytjdjekffkoidmaa", sum := "ce1b43b350ddc3d57424feb7b3a6a8b82341645254e0da56298e613602d1dff1", func := "turnstile/turnstilelaw23.PlanNames", spec := "planNames", unfollowed := true, recurses := true, apart := false }
def PlanNamesSaid : Prop := planNamesRow.holds Try.pinned (OpenSpec.ofChange planNamesSpec)

/-- ITS FALSE NEIGHBOUR: 'it returns false'. Refute it at one input. -/
def planNamesWrong : ChangeSpec := { name := "planNames", fn := fun _ => fun
  | [] => { results := [.lit (.bool false)], args := [] }
  | _ => none }
def PlanNamesWrongFalsely : Prop := planNamesRow.holds Try.pinned (OpenSpec.ofChange planNamesWrong)

/- THE SECOND FORM. 'bulk': how many values and letters a reading holds, each counted each time it is reached (what is shared counts as often as it is met; a slice's spare places count too). A statement '..UptoSaid' is the law's where the arguments, and the package variables that the reading takes, are together of bulk at most 1048576: NARROWER than '..Said'. Prove '..Said' where nothing that the law and all that it calls make is longer than what came in: it says more and counts as full. Else prove '..UptoSaid'. A law counts once. -/
mutual
def uptoBulk {H : Type} : DataW H → Nat
  | .lit (.string bytes) => bytes.length + 1
  | .lit _ => 1
  | .nil => 1
  | .ptr d => uptoBulk d + 1
  | .slice elems spare => uptoBulkAll elems + uptoBulkAll spare + 1
  | .agg parts => uptoBulkAll parts + 1
  | .iface _ d => uptoBulk d + 1
  | .map entries => uptoBulkEntries entries + 1
  | .held _ => 1
def uptoBulkAll {H : Type} : List (DataW H) → Nat
  | [] => 0
  | d :: r => uptoBulk d + uptoBulkAll r
def uptoBulkEntries {H : Type} : List (Lit × DataW H) → Nat
  | [] => 0
  | x :: r => uptoBulkEntry x + uptoBulkEntries r
def uptoBulkEntry {H : Type} : Lit × DataW H → Nat
  | (.string bytes, d) => bytes.length + uptoBulk d + 1
  | (_, d) => uptoBulk d + 1
 end
def uptoSmall : (H : Type) → List (DataW H) → Bool := fun _ ds => decide (uptoBulkAll ds ≤ 1048576)
def OpenSpec.upto (s : _root_.Go.ChangeSpec) : _root_.Go.OpenSpec := { _root_.Go.OpenSpec.ofChange s with cond := some uptoSmall }

/-- 'turnstilelaw23.PlanParts', WHERE WHAT IT READS IS OF BULK AT MOST 1048576: true; the input reads as it did. -/
def planPartsUptoRow : OpenClaim := { program := "ytjdjekffkoidmaa", sum := "ce1b43b350ddc3d57424feb7b3a6a8b82341645254e0da56298e613602d1dff1", func := "turnstile/turnstilelaw23.PlanParts", spec := "planParts", unfollowed := true, recurses := true, apart := false, narrowed := true }
def PlanPartsUptoSaid : Prop := planPartsUptoRow.holds Try.pinned (OpenSpec.upto planPartsSpec)

/-- 'turnstilelaw23.PlanStripes', WHERE WHAT IT READS IS OF BULK AT MOST 1048576: true; the input reads as it did. -/
def planStripesUptoRow : OpenClaim := { program := "ytjdjekffkoidmaa", sum := "ce1b43b350ddc3d57424feb7b3a6a8b82341645254e0da56298e613602d1dff1", func := "turnstile/turnstilelaw23.PlanStripes", spec := "planStripes", unfollowed := true, recurses := true, apart := false, narrowed := true }
def PlanStripesUptoSaid : Prop := planStripesUptoRow.holds Try.pinned (OpenSpec.upto planStripesSpec)

/-- 'turnstilelaw23.PlanLocks', WHERE WHAT IT READS IS OF BULK AT MOST 1048576: true; the input reads as it did. -/
def planLocksUptoRow : OpenClaim := { program := "ytjdjekffkoidmaa", sum := "ce1b43b350ddc3d57424feb7b3a6a8b82341645254e0da56298e613602d1dff1", func := "turnstile/turnstilelaw23.PlanLocks", spec := "planLocks", unfollowed := true, recurses := true, apart := false, narrowed := true }
def PlanLocksUptoSaid : Prop := planLocksUptoRow.holds Try.pinned (OpenSpec.upto planLocksSpec)

/-- 'turnstilelaw23.PlanSays', WHERE WHAT IT READS IS OF BULK AT MOST 1048576: true; the input reads as it did. -/
def planSaysUptoRow : OpenClaim := { program := "ytjdjekffkoidmaa", sum := "ce1b43b350ddc3d57424feb7b3a6a8b82341645254e0da56298e613602d1dff1", func := "turnstile/turnstilelaw23.PlanSays", spec := "planSays", unfollowed := true, recurses := true, apart := false, narrowed := true }
def PlanSaysUptoSaid : Prop := planSaysUptoRow.holds Try.pinned (OpenSpec.upto planSaysSpec)

/-- 'turnstilelaw23.PlanNames', WHERE WHAT IT READS IS OF BULK AT MOST 1048576: true; the input reads as it did. -/
def planNamesUptoRow : OpenClaim := { program := "ytjdjekffkoidmaa", sum := "ce1b43b350ddc3d57424feb7b3a6a8b82341645254e0da56298e613602d1dff1", func := "turnstile/turnstilelaw23.PlanNames", spec := "planNames", unfollowed := true, recurses := true, apart := false, narrowed := true }
def PlanNamesUptoSaid : Prop := planNamesUptoRow.holds Try.pinned (OpenSpec.upto planNamesSpec)

end Rows
end Go.Proofs.Ytjdjekffkoidmaa

/-
  No cell of these rows narrows 'for every input' (looked for: loops, veiled, ifaces, maps, wideKeys, modest, calm, conditions, laid).
  DERIVED. THE GIVEN ROWS OF THIS SEAT. 7 by the template 'for every input the law returns true; each argument reads behind the call as it read before'; 0 by the template 'total and deterministic' (their statements: YtnechkhgceeejaaTotals.lean).
  GIVEN WITH THE SEED: the statements are not yours to turn. If you find one false, say at which input.
  Laid BY PROGRAM, IN A SANDBOX (cutbox-rows.mjs): the forced cells as the released guide's own fill.sh prints them over the translation 88a4fa5f65714e87… (all of the seat's roots in one cut). By AI agents, Wed Nov 11 2026. No macro, syntax, notation, axiom, sorry.
-/
import Derived.Test.YtnechkhgceeejaaChecked
import GoSem.Claim
import GoSem.ClaimJoined
import GoSem.ClaimMapViews
import Derived.JoinedTies
import Derived.KernelRfl
namespace Go.Proofs.Ytnechkhgceeejaa
/- THE CELL 'sum', in the pinned program and in every row, IS THE sha256 OF THE DUMP (.gsa) THAT YtnechkhgceeejaaProg.lean LOADS. Nothing in Lean hashes anything: it is a label: what it is worth is what the hold of that sum in a sandbox is worth. -/
noncomputable def Try.pinned : Pinned := { name := "ytnechkhgceeejaa", sum := "88a4fa5f65714e877ad635eb43ca47ab4eeb52d10528359bbb48b079bff3772b", checked := Try.checked }
namespace Rows
def none {H : Type} : Left H := { results := [], args := [] }

/-- 'turnstilelaw20.TsoNames': WHATEVER THE INPUT: true; the input reads as it did. -/
def tsoNamesSpec : ChangeSpec := { name := "tsoNames", fn := fun _ => fun
  | [] => { results := [.lit (.bool true)], args := [] }
  | _ => none }
def tsoNamesRow : OpenClaim := { program := "ytnechkhgceeejaa", sum := "88a4fa5f65714e877ad635eb43ca47ab4eeb52d10528359bbb48b079bff3772b", func := "turnstile/turnstilelaw20.TsoNames", spec := "tsoNames", unfollowed := true, recurses := true, apart := false }
def TsoNamesSaid : Prop := tsoNamesRow.holds Try.pinned (OpenSpec.ofChange tsoNamesSpec)

/-- ITS FALSE NEIGHBOUR: 'it returns false'. Refute it at one input. -/
def tsoNamesWrong : ChangeSpec := { name := "tsoNames", fn := fun _ => fun
  | [] => { results := [.lit (.bool false)], args := [] }
  | _ => none }
def TsoNamesWrongFalsely : Prop := tsoNamesRow.holds Try.pinned (OpenSpec.ofChange tsoNamesWrong)

/-- 'turnstilelaw20.TsoOrders': WHATEVER THE INPUT: true; the input reads as it did. -/
def tsoOrdersSpec : ChangeSpec := { name := "tsoOrders", fn := fun _ => fun
  | [d1, d2, d3, d4] => { results := [.lit (.bool true)], args := [d1, d2, d3, d4] }
  | _ => none }
def tsoOrdersRow : OpenClaim := { program := "ytnechkhgceeejaa", sum := "88a4fa5f65714e877ad635eb43ca47ab4eeb52d10528359bbb48b079bff3772b", func := "turnstile/turnstilelaw20.TsoOrders", spec := "tsoOrders", unfollowed := true, recurses := true, apart := false }
def TsoOrdersSaid : Prop := tsoOrdersRow.holds Try.pinned (OpenSpec.ofChange tsoOrdersSpec)

/-- ITS FALSE NEIGHBOUR: 'it returns false'. Refute it at one input. -/
def tsoOrdersWrong : ChangeSpec := { name := "tsoOrders", fn := fun _ => fun
  | [d1, d2, d3, d4] => { results := [.lit (.bool false)], args := [d1, d2, d3, d4] }
  | _ => none }
def TsoOrdersWrongFalsely : Prop := tsoOrdersRow.holds Try.pinned (OpenSpec.ofChange tsoOrdersWrong)

/-- 'turnstilelaw20.TsoApart': WHATEVER THE INPUT: true; the input reads as it did. -/
def tsoApartSpec : ChangeSpec := { name := "tsoApart", fn := fun _ => fun
  | [d1, d2, d3] => { results := [.lit (.bool true)], args := [d1, d2, d3] }
  | _ => none }
def tsoApartRow : OpenClaim := { program := "ytnechkhgceeejaa", sum := "88a4fa5f65714e877ad635eb43ca47ab4eeb52d10528359bbb48b079bff3772b", func := "turnstile/turnstilelaw20.TsoApart", spec := "tsoApart", unfollowed := true, recurses := true, apart := false }
def TsoApartSaid : Prop := tsoApartRow.holds Try.pinned (OpenSpec.ofChange tsoApartSpec)

/-- ITS FALSE NEIGHBOUR: 'it returns false'. Refute it at one input. -/
def tsoApartWrong : ChangeSpec := { name := "tsoApart", fn := fun _ => fun
  | [d1, d2, d3] => { results := [.lit (.bool false)], args := [d1, d2, d3] }
  | _ => none }
def TsoApartWrongFalsely : Prop := tsoApartRow.holds Try.pinned (OpenSpec.ofChange tsoApartWrong)

/-- 'turnstilelaw20.TsoNone': WHATEVER THE INPUT: true; the input reads as it did. -/
def tsoNoneSpec : ChangeSpec := { name := "tsoNone", fn := fun _ => fun
  | [d1, d2] => { results := [.lit (.bool true)], args := [d1, d2] }
  | _ => none }
def tsoNoneRow : OpenClaim := { program := "ytnechkhgceeejaa", sum := "88a4fa5f65714e877ad635eb43ca47ab4eeb52d10528359bbb48b079bff3772b", func := "turnstile/turnstilelaw20.TsoNone", spec := "tsoNone", unfollowed := true, recurses := true, apart := false }
def TsoNoneSaid : Prop := tsoNoneRow.holds Try.pinned (OpenSpec.ofChange tsoNoneSpec)

/-- ITS FALSE NEIGHBOUR: 'it returns false'. Refute it at one input. -/
def tsoNoneWrong : ChangeSpec := { name := "tsoNone", fn := fun _ => fun
  | [d1, d2] => { results := [.lit (.bool false)], args := [d1, d2] }
  | _ => none }
def TsoNoneWrongFalsely : Prop := tsoNoneRow.holds Try.pinned (OpenSpec.ofChange tsoNoneWrong)

/-- 'turnstilelaw21.PlayByHand': WHATEVER THE INPUT: true; the input reads as it did. -/
def playByHandSpec : ChangeSpec := { name := "playByHand", fn := fun _ => fun
  | [d1, d2] => { results := [.lit (.bool true)], args := [d1, d2] }
  | _ => none }
def playByHandRow : OpenClaim := { program := "ytnechkhgceeejaa", sum := "88a4fa5f65714e877ad635eb43ca47ab4eeb52d10528359bbb48b079bff3772b", func := "turnstile/turnstilelaw21.PlayByHand", spec := "playByHand", unfollowed := true, recurses := true, apart := false }
def PlayByHandSaid : Prop := playByHandRow.holds Try.pinned (OpenSpec.ofChange playByHandSpec)

/-- ITS FALSE NEIGHBOUR: 'it returns false'. Refute it at one input. -/
def playByHandWrong : ChangeSpec := { name := "playByHand", fn := fun _ => fun
  | [d1, d2] => { results := [.lit (.bool false)], args := [d1, d2] }
  | _ => none }
def PlayByHandWrongFalsely : Prop := playByHandRow.holds Try.pinned (OpenSpec.ofChange playByHandWrong)

/-- 'turnstilelaw21.PlayWhole': WHATEVER THE INPUT: true; the input reads as it did. -/
def playWholeSpec : ChangeSpec := { name := "playWhole", fn := fun _ => fun
  | [d1, d2, d3] => { results := [.lit (.bool true)], args := [d1, d2, d3] }
  | _ => none }
def playWholeRow : OpenClaim := { program := "ytnechkhgceeejaa", sum := "88a4fa5f65714e877ad635eb43ca47ab4eeb52d10528359bbb48b079bff3772b", func := "turnstile/turnstilelaw21.PlayWhole", spec := "playWhole", unfollowed := true, recurses := true, apart := false }
def PlayWholeSaid : Prop := playWholeRow.holds Try.pinned (OpenSpec.ofChange playWholeSpec)

/-- ITS FALSE NEIGHBOUR: 'it returns false'. Refute it at one input. -/
def playWholeWrong : ChangeSpec := { name := "playWhole", fn := fun _ => fun
  | [d1, d2, d3] => { results := [.lit (.bool false)], args := [d1, d2, d3] }
  | _ => none }
def PlayWholeWrongFalsely : Prop := playWholeRow.holds Try.pinned (OpenSpec.ofChange playWholeWrong)

/-- 'turnstilelaw21.PlayNames': WHATEVER THE INPUT: true; the input reads as it did. -/
def playNamesSpec : ChangeSpec := { name := "playNames", fn := fun _ => fun
  | [] => { results := [.lit (.bool true)], args := [] }
  | _ => none }
def playNamesRow : OpenClaim := { program := "ytnechkhgceeejaa", sum := "88a4fa5f65714e877ad635eb43ca47ab4eeb52d10528359bbb48b079bff3772b", func := "turnstile/turnstilelaw21.PlayNames", spec := "playNames", unfollowed := true, recurses := true, apart := false }
def PlayNamesSaid : Prop := playNamesRow.holds Try.pinned (OpenSpec.ofChange playNamesSpec)

/-- ITS FALSE NEIGHBOUR: 'it returns false'. Refute it at one input. -/
def playNamesWrong : ChangeSpec := { name := "playNames", fn := fun _ => fun
  | [] => { results := [.lit (.bool false)], args := [] }
  | _ => none }
def PlayNamesWrongFalsely : Prop := playNamesRow.holds Try.pinned (OpenSpec.ofChange playNamesWrong)

/- THE SECOND FORM. 'bulk': how many values and letters a reading holds, each counted each time it is reached (what is shared counts as often as it is met; a slice's spare places count too). A statement '..UptoSaid' is the law's where the arguments, and the package variables that the reading takes, are together of bulk at most 1048576: NARROWER than '..Said'. Prove '..Said' where nothing that the law and all that it calls make is longer than what came in: it says more and counts as full. Else prove '..UptoSaid'. A law counts once. -/
mutual
def uptoBulk {H : Type} : DataW H → Nat
  | .lit (.string bytes) => bytes.length + 1
  | .lit _ => 1
  | .nil => 1
  | .ptr d => uptoBulk d + 1
  | .slice elems spare => uptoBulkAll elems + uptoBulkAll spare + 1
  | .agg parts => uptoBulkAll parts + 1
  | .iface _ d => uptoBulk d + 1
  | .map entries => uptoBulkEntries entries + 1
  | .held _ => 1
def uptoBulkAll {H : Type} : List (DataW H) → Nat
  | [] => 0
  | d :: r => uptoBulk d + uptoBulkAll r
def uptoBulkEntries {H : Type} : List (Lit × DataW H) → Nat
  | [] => 0
  | x :: r => uptoBulkEntry x + uptoBulkEntries r
def uptoBulkEntry {H : Type} : Lit × DataW H → Nat
  | (.string bytes, d) => bytes.length + uptoBulk d + 1
  | (_, d) => uptoBulk d + 1
 end
def uptoSmall : (H : Type) → List (DataW H) → Bool := fun _ ds => decide (uptoBulkAll ds ≤ 1048576)
def OpenSpec.upto (s : _root_.Go.ChangeSpec) : _root_.Go.OpenSpec := { _root_.Go.OpenSpec.ofChange s with cond := some uptoSmall }

/-- 'turnstilelaw20.TsoNames', WHERE WHAT IT READS IS OF BULK AT MOST 1048576: true; the input reads as it did. -/
def tsoNamesUptoRow : OpenClaim := { program := "ytnechkhgceeejaa", sum := "88a4fa5f65714e877ad635eb43ca47ab4eeb52d10528359bbb48b079bff3772b", func := "turnstile/turnstilelaw20.TsoNames", spec := "tsoNames", unfollowed := true, recurses := true, apart := false, narrowed := true }
def TsoNamesUptoSaid : Prop := tsoNamesUptoRow.holds Try.pinned (OpenSpec.upto tsoNamesSpec)

/-- 'turnstilelaw20.TsoOrders', WHERE WHAT IT READS IS OF BULK AT MOST 1048576: true; the input reads as it did. -/
def tsoOrdersUptoRow : OpenClaim := { program := "ytnechkhgceeejaa", sum := "88a4fa5f65714e877ad635eb43ca47ab4eeb52d10528359bbb48b079bff3772b", func := "turnstile/turnstilelaw20.TsoOrders", spec := "tsoOrders", unfollowed := true, recurses := true, apart := false, narrowed := true }
def TsoOrdersUptoSaid : Prop := tsoOrdersUptoRow.holds Try.pinned (OpenSpec.upto tsoOrdersSpec)

/-- 'turnstilelaw20.TsoApart', WHERE WHAT IT READS IS OF BULK AT MOST 1048576: true; the input reads as it did. -/
def tsoApartUptoRow : OpenClaim := { program := "ytnechkhgceeejaa", sum := "88a4fa5f65714e877ad635eb43ca47ab4eeb52d10528359bbb48b079bff3772b", func := "turnstile/turnstilelaw20.TsoApart", spec := "tsoApart", unfollowed := true, recurses := true, apart := false, narrowed := true }
def TsoApartUptoSaid : Prop := tsoApartUptoRow.holds Try.pinned (OpenSpec.upto tsoApartSpec)

/-- 'turnstilelaw20.TsoNone', WHERE WHAT IT READS IS OF BULK AT MOST 1048576: true; the input reads as it did. -/
def tsoNoneUptoRow : OpenClaim := { program := "ytnechkhgceeejaa", sum := "88a4fa5f65714e877ad635eb43ca47ab4eeb52d10528359bbb48b079bff3772b", func := "turnstile/turnstilelaw20.TsoNone", spec := "tsoNone", unfollowed := true, recurses := true, apart := false, narrowed := true }
def TsoNoneUptoSaid : Prop := tsoNoneUptoRow.holds Try.pinned (OpenSpec.upto tsoNoneSpec)

/-- 'turnstilelaw21.PlayByHand', WHERE WHAT IT READS IS OF BULK AT MOST 1048576: true; the input reads as it did. -/
def playByHandUptoRow : OpenClaim := { program := "ytnechkhgceeejaa", sum := "88a4fa5f65714e877ad635eb43ca47ab4eeb52d10528359bbb48b079bff3772b", func := "turnstile/turnstilelaw21.PlayByHand", spec := "playByHand", unfollowed := true, recurses := true, apart := false, narrowed := true }
def PlayByHandUptoSaid : Prop := playByHandUptoRow.holds Try.pinned (OpenSpec.upto playByHandSpec)

/-- 'turnstilelaw21.PlayWhole', WHERE WHAT IT READS IS OF BULK AT MOST 1048576: true; the input reads as it did. -/
def playWholeUptoRow : OpenClaim := { program := "ytnechkhgceeejaa", sum := "88a4fa5f65714e877ad635eb43ca47ab4eeb52d10528359bbb48b079bff3772b", func := "turnstile/turnstilelaw21.PlayWhole", spec := "playWhole", unfollowed := true, recurses := true, apart := false, narrowed := true }
def PlayWholeUptoSaid : Prop := playWholeUptoRow.holds Try.pinned (OpenSpec.upto playWholeSpec)

/-- 'turnstilelaw21.PlayNames', WHERE WHAT IT READS IS OF BULK AT MOST 1048576: true; the input reads as it did. -/
def playNamesUptoRow : OpenClaim := { program := "ytnechkhgceeejaa", sum := "88a4fa5f65714e877ad635eb43ca47ab4eeb52d10528359bbb48b079bff3772b", func := "turnstile/turnstilelaw21.PlayNames", spec := "playNames", unfollowed := true, recurses := true, apart := false, narrowed := true }
def PlayNamesUptoSaid : Prop := playNamesUptoRow.holds Try.pinned (OpenSpec.upto playNamesSpec)

end Rows
end Go.Proofs.Ytnechkhgceeejaa

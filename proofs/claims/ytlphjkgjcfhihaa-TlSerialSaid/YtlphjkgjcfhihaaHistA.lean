/- Package history: how events and attempts lie; the contract of (*thread).end. -/
import Derived.Test.YtlphjkgjcfhihaaStep
import Derived.Test.YtlphjkgjcfhihaaHistSpec
namespace Go.Proofs.Ytlphjkgjcfhihaa
set_option linter.unusedVariables false
set_option linter.unusedSimpArgs false
open Go.RowKit

/-- api.Event: Thread, Kind, A, B -/
def encEv (x : Ev) : List Value := [.int .i64 x.th, .int .u8 x.k, .int .i64 x.a, .int .i64 x.b]
theorem encEv_len : ∀ a, (encEv a).length = 4 := fun _ => rfl
/-- api.Attempt, its Done lying at dv -/
def encAtt (a : Att) (dv : Value) : List Value := [.int .i64 a.th, .int .u8 a.kind, .int .i64 a.beg, .int .i64 a.fin, .int .i64 a.clock, .int .i64 a.place, .bool a.writer, dv]
theorem evInfo : (Try.prog.info? 57).map (fun i => (i.zero, i.size, i.bytes)) = some (some (.agg #[.int .i64 0, .int .u8 0, .int .i64 0, .int .i64 0]), 4, 32) := by kernel_rfl

/-- an attempt lies in block g, its events in a row of their own -/
def AttAt (w : World) (base g : Nat) (dv : Value) (a : Att) : Prop :=
  w.heap[g]? = some (.cells (encAtt a dv).toArray 73 (0, 0)) ∧ base ≤ g ∧ w.ownsRow base 57 4 dv a.done.length (a.done.flatMap encEv)

end Go.Proofs.Ytlphjkgjcfhihaa

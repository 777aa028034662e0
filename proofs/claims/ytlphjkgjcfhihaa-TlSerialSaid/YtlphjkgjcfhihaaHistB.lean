/- The contract of (*thread).take: events that may not be. -/
import Derived.Test.YtlphjkgjcfhihaaHistA
namespace Go.Proofs.Ytlphjkgjcfhihaa
set_option linter.unusedVariables false
set_option linter.unusedSimpArgs false
open Go.RowKit

def evAgg (x : Ev) : Value := .agg #[.int .i64 x.th, .int .u8 x.k, .int .i64 x.a, .int .i64 x.b]

/-- the post of an event that may not be -/
def TakeNo (w : World) (e : Ending) (w' : World) : Prop := e = .returned (.tuple #[.pointer none, .bool false]) ∧ Below w.heap.size w w'

end Go.Proofs.Ytlphjkgjcfhihaa

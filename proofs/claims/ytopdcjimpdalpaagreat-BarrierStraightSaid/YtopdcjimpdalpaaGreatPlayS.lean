/- turnstilelaw01.SameSeens, SameTrace, SamePicks of equal values. -/
import Derived.Test.YtopdcjimpdalpaaGreatMTsoW
import Derived.Test.YtopdcjimpdalpaaGreatPlayA
namespace Go.Proofs.YtopdcjimpdalpaaGreat
open Go.RowKit
set_option linter.unusedVariables false
set_option linter.unusedSimpArgs false

theorem SeenAt.below {w w' : World} {v : Value} {ls : List SX} (h : SeenAt w v ls) (hb : Below w.heap.size w w') : SeenAt w' v ls := ⟨Rd.below h.rows hb, fun s hs => Rd.below (h.each s hs) hb⟩

end Go.Proofs.YtopdcjimpdalpaaGreat

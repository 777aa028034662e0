/- What the last text of PlanMakes imports. -/
import Derived.Test.YtilkpmjkiohfdaaGreatDoorPlanMakes
import Derived.ChangeMaps5
namespace Go.Proofs.YtilkpmjkiohfdaaGreatDoor
open Go.RowKit
theorem int_elem {H : Type} {enc : TypeId × Value → H} {w : World} {held : Bool} (fuel : Nat) (cs : List Value) (x : DataW H × List MemPlace) (h : DataW.trod enc Tryz.prog w 0 (fun _ => true) held fuel 3 cs = some x) : ∃ a, cs = encZ a ∧ True := by
  obtain ⟨n, f, -, -⟩ := DataW.trod_int Tryz.underlying3 h
  exact ⟨n, f, trivial⟩
end Go.Proofs.YtilkpmjkiohfdaaGreatDoor

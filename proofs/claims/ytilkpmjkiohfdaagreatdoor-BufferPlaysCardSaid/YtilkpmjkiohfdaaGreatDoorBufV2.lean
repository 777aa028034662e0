/- What the last text of BufferPlays imports. -/
import Derived.Test.YtilkpmjkiohfdaaGreatDoorBufPlays
import Derived.ProofKit
import Derived.Deep.Strs
import Derived.ChangeMaps5
namespace Go.Proofs.YtilkpmjkiohfdaaGreatDoor
open Go.RowKit

theorem list_three {α : Type} (l : List α) (h : l.length = 3) : ∃ a b c, l = [a, b, c] := by
  match l, h with
  | [a, b, c], _ => exact ⟨a, b, c, rfl⟩

theorem step_elem {H : Type} {enc : TypeId × Value → H} {w : World} {held : Bool} (fuel : Nat) (cs : List Value) (x : DataW H × List MemPlace) (h : DataW.trod enc Tryz.prog w 0 (fun _ => true) held fuel 73 cs = some x) : ∃ a, cs = encT a ∧ True := by
  obtain ⟨y0, y1, y2, n, hx, hl, h0, h1, h2⟩ := Go.Deep.trod_struct3 Tryz.underlying73 h
  obtain ⟨a, ha, -, -⟩ := DataW.trod_int Tryz.underlying3 h0
  obtain ⟨b, hb, -, -⟩ := DataW.trod_int Tryz.underlying3 h1
  obtain ⟨c, hc, -, -⟩ := DataW.trod_int Tryz.underlying2 h2
  rw [show Tryz.prog.cellsOf 73 = 3 from by kernel_rfl] at hl
  rw [show Tryz.prog.cellsOf 3 = 1 from by kernel_rfl] at ha hb
  rw [show Tryz.prog.cellsOf 2 = 1 from by kernel_rfl] at hc
  obtain ⟨c0, c1, c2, rfl⟩ := list_three cs hl
  simp at ha hb hc
  exact ⟨⟨a, b, c⟩, by simp [encT, ha, hb, hc], trivial⟩
end Go.Proofs.YtilkpmjkiohfdaaGreatDoor

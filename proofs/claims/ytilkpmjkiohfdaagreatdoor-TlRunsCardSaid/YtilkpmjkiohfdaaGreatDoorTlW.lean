/- A thing to do that came in, as its four cells. -/
import Derived.Test.YtilkpmjkiohfdaaGreatDoorTlP
import Derived.Test.YtilkpmjkiohfdaaGreatDoorWrap
import Derived.ProofKit
import Derived.Lib.SmallJoins
namespace Go.Proofs.YtilkpmjkiohfdaaGreatDoor
open Go.RowKit

theorem list_four {α : Type} (l : List α) (h : l.length = 4) : ∃ a b c d, l = [a, b, c, d] := by
  match l, h with
  | [a, b, c, d], _ => exact ⟨a, b, c, d, rfl⟩

theorem tx_elem {H : Type} {enc : TypeId × Value → H} {w : World} {held : Bool} (fuel : Nat) (cs : List Value) (x : DataW H × List MemPlace) (h : DataW.trod enc Tryz.prog w 0 (fun _ => true) held fuel 150 cs = some x) : ∃ a, cs = encTx a ∧ True := by
  obtain ⟨y0, y1, y2, y3, n, hx, hl, h0, h1, h2, h3⟩ := Go.Joins.trod_struct4 Tryz.underlying150 h
  obtain ⟨a, ha, -, -⟩ := DataW.trod_int Tryz.underlying3 h0
  obtain ⟨k, hk, -, hkw⟩ := DataW.trod_int Tryz.underlying148 h1
  obtain ⟨b, hb, -, -⟩ := DataW.trod_int Tryz.underlying3 h2
  obtain ⟨c, hc, -, -⟩ := DataW.trod_int Tryz.underlying2 h3
  rw [show Tryz.prog.cellsOf 150 = 4 from by kernel_rfl] at hl
  rw [show Tryz.prog.cellsOf 3 = 1 from by kernel_rfl] at ha hb
  rw [show Tryz.prog.cellsOf 148 = 1 from by kernel_rfl] at hk
  rw [show Tryz.prog.cellsOf 2 = 1 from by kernel_rfl] at hc
  obtain ⟨c0, c1, c2, c3, rfl⟩ := list_four cs hl
  simp at ha hk hb hc
  exact ⟨⟨a, k, b, c⟩, by simp [encTx, ha, hk, hb, hc], trivial⟩
end Go.Proofs.YtilkpmjkiohfdaaGreatDoor

/- An event that came in, as its four cells. -/
import Derived.Test.YtfnbnpkpdoelnaaHistBegins
import Derived.Test.YtfnbnpkpdoelnaaWrap
import Derived.ProofKit
import Derived.Lib.SmallJoins
namespace Go.Proofs.Ytfnbnpkpdoelnaa
open Go.RowKit

theorem ev_elem {H : Type} {enc : TypeId × Value → H} {w : World} {held : Bool} (fuel : Nat) (cs : List Value) (x : DataW H × List MemPlace) (h : DataW.trod enc Try.prog w 0 (fun _ => true) held fuel 37 cs = some x) : ∃ a, cs = encEv a ∧ True := by
  obtain ⟨y0, y1, y2, y3, n, hx, hl, h0, h1, h2, h3⟩ := Go.Joins.trod_struct4 Try.underlying37 h
  obtain ⟨a, ha, -, -⟩ := DataW.trod_int Try.underlying3 h0
  obtain ⟨k, hk, -, hkw⟩ := DataW.trod_int Try.underlying35 h1
  obtain ⟨b, hb, -, -⟩ := DataW.trod_int Try.underlying2 h2
  obtain ⟨c, hc, -, -⟩ := DataW.trod_int Try.underlying2 h3
  rw [show Try.prog.cellsOf 37 = 4 from by kernel_rfl] at hl
  rw [show Try.prog.cellsOf 3 = 1 from by kernel_rfl] at ha
  rw [show Try.prog.cellsOf 35 = 1 from by kernel_rfl] at hk
  rw [show Try.prog.cellsOf 2 = 1 from by kernel_rfl] at hb hc
  match cs, hl with
  | [c0, c1, c2, c3], _ =>
    simp at ha hk hb hc
    exact ⟨⟨a, k, b, c⟩, by simp [encEv, ha, hk, hb, hc], trivial⟩
end Go.Proofs.Ytfnbnpkpdoelnaa

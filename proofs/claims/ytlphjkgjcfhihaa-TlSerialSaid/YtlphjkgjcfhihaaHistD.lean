/- The contract of (*thread).take: an event within an attempt. -/
import Derived.Test.YtlphjkgjcfhihaaHistC
import Derived.Deep.CutRange
import Derived.Deep.RegionLaw
namespace Go.Proofs.Ytlphjkgjcfhihaa
set_option linter.unusedVariables false
set_option linter.unusedSimpArgs false
open Go.RowKit

/-- the post of an event within an attempt -/
def TakeMore (x : Ev) (t : Att) (base g : Nat) (dv : Value) (w : World) (e : Ending) (w' : World) : Prop := e = .returned (.tuple #[.pointer none, .bool true]) ∧
  ∃ dv', AttAt w' base g dv' (more x t) ∧ (∀ d, dv'.ownBlock = some d → dv.ownBlock = some d ∨ w.heap.size ≤ d) ∧ Chg (fun j => j = g ∨ dv.ownBlock = some j) w w'

theorem cell_other {w : World} {a p : Addr} {u v : Value} (h : w.cell? a = some v) (hn : a.block ≠ p.block) : (w.setCell p u).cell? a = some v := by
  rw [World.cell?_of_block (w := w) (Below.heap_setCell _ _ _ _ hn)]; exact h

theorem one_ev (x : Ev) : ∀ u ∈ encEv x, u.oneCell' = true := by
  intro u hu
  simp [encEv] at hu
  rcases hu with rfl | rfl | rfl | rfl <;> rfl

end Go.Proofs.Ytlphjkgjcfhihaa

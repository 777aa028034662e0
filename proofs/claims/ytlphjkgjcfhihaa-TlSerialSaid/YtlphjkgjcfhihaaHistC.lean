/- The contract of (*thread).take: events that turn the state. Written by mkhistc.py. -/
import Derived.Test.YtlphjkgjcfhihaaHistB
namespace Go.Proofs.Ytlphjkgjcfhihaa
set_option linter.unusedVariables false
set_option linter.unusedSimpArgs false
open Go.RowKit

/-- the post of an event that is taken and begins no attempt -/
def TakeYes (S : Nat → Prop) (w : World) (R : World → Prop) (e : Ending) (w' : World) : Prop := e = .returned (.tuple #[.pointer none, .bool true]) ∧ Chg S w w' ∧ R w'

theorem set_at {tc : Array Value} {o : Nat} {u : Value} (h : tc[o]? = some u) (v : Value) : (tc.setIfInBounds o v)[o]? = some v := by
  obtain ⟨hlt, _⟩ := Array.getElem?_eq_some_iff.1 h
  simp [hlt]

theorem block_new3 (w : World) (p : Addr) (u : Value) (x y : Obj) : (((w.setCell p u).alloc x).alloc y).heap[w.heap.size + 1]? = some y := by
  have := block_new2 (w.setCell p u) x y
  rwa [show (w.setCell p u).heap.size = w.heap.size from by simp [World.setCell]] at this

/-- the post of a beginning -/
def TakeBegin (x : Ev) (at_ : Nat) (bt o : Nat) (tc : Array Value) (T : TypeId) (w : World) (e : Ending) (w' : World) : Prop :=
  ∃ g, w.heap.size ≤ g ∧ e = .returned (.tuple #[.pointer (some ⟨g, 0, none⟩), .bool true]) ∧ Chg (fun j => j = bt) w w' ∧
    w'.heap[g]? = some (.cells (encAtt (begun x at_) (.slice none 0 0)).toArray 73 (0, 0)) ∧ w'.heap[bt]? = some (.cells (tc.setIfInBounds o (.pointer (some ⟨g, 0, none⟩))) T (0, 0))

end Go.Proofs.Ytlphjkgjcfhihaa

/- Package play: Tail. -/
import Derived.Test.YtopdcjimpdalpaaGreatPlayA
import Derived.Test.YtopdcjimpdalpaaGreatMake
import Derived.Test.YtopdcjimpdalpaaGreatBookR
namespace Go.Proofs.YtopdcjimpdalpaaGreat
open Go.RowKit
set_option linter.unusedVariables false
set_option linter.unusedSimpArgs false

variable {w w' : World} {base : Nat}

theorem pkInfo : (Tryz.prog.info? 42).map (fun i => (i.zero, i.size, i.bytes)) = some (some (.agg #[.int .u8 0, .int .i64 0, .int .i64 0]), 3, 24) := by kernel_rfl
theorem one_pk (p : PickD) : ∀ u ∈ encPk p, u.oneCell' = true := by
  intro u hu
  simp [encPk] at hu
  rcases hu with rfl | rfl | rfl <;> rfl

def putS (l : List PickD) (k th n : Int) : List PickD := if 0 < n then l ++ [⟨k, th, n⟩] else l
theorem putS_len (l : List PickD) (k th n : Int) : l.length ≤ (putS l k th n).length ∧ (putS l k th n).length ≤ l.length + 1 := by unfold putS; split <;> simp

/-- a variable that a slice stands in, of its own -/
structure RowVar (w : World) (base x : Nat) (l : List PickD) (v : Value) : Prop where
  box : w.heap[x]? = some (.cells #[v] 23 (0, 0))
  row : w.ownsRow base 42 3 v l.length (l.flatMap encPk)
  ne : v.ownBlock ≠ some x
theorem RowVar.keep {x : Nat} {l : List PickD} {v : Value} (h : RowVar w base x l v) (hk : ∀ g, g = x ∨ v.ownBlock = some g → g < w.heap.size → w'.heap[g]? = w.heap[g]?) : RowVar w' base x l v :=
  ⟨(hk x (.inl rfl) (lt_of_block h.box)).trans h.box, ownRow_keep h.row fun g hg hl => hk g (.inr hg) hl, h.ne⟩
def PutPk (base x : Nat) (l : List PickD) (v : Value) (w w' : World) : Prop :=
  ∃ v', RowVar w' base x l v' ∧ (∀ g, v'.ownBlock = some g → v.ownBlock = some g ∨ w.heap.size ≤ g)

end Go.Proofs.YtopdcjimpdalpaaGreat

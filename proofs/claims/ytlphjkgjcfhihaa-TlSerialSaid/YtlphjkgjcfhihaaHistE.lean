/- How the state of history.Of lies in memory, and that a turn of it lies there too. -/
import Derived.Test.YtlphjkgjcfhihaaHistD
namespace Go.Proofs.Ytlphjkgjcfhihaa
set_option linter.unusedVariables false
set_option linter.unusedSimpArgs false
open Go.RowKit

def openV (gb : Nat → Nat) : Option Nat → Value
  | none => .pointer none
  | some j => .pointer (some ⟨gb j, 0, none⟩)

/-- the four threads -/
def encThr (s : HS) (gb : Nat → Nat) : List Value :=
  [openV gb (s.opn 0), .bool (s.ended 0), openV gb (s.opn 1), .bool (s.ended 1), openV gb (s.opn 2), .bool (s.ended 2), openV gb (s.opn 3), .bool (s.ended 3)]

theorem four {t : Nat} (h : t < 4) : t = 0 ∨ t = 1 ∨ t = 2 ∨ t = 3 := by omega
theorem encThr_opn (s : HS) (gb : Nat → Nat) {t : Nat} (h : t < 4) : (encThr s gb).toArray[2 * t]? = some (openV gb (s.opn t)) := by
  rcases four h with rfl | rfl | rfl | rfl <;> rfl
theorem encThr_ended (s : HS) (gb : Nat → Nat) {t : Nat} (h : t < 4) : (encThr s gb).toArray[2 * t + 1]? = some (.bool (s.ended t)) := by
  rcases four h with rfl | rfl | rfl | rfl <;> rfl
theorem encThr_set_opn (s : HS) (gb : Nat → Nat) {t : Nat} (h : t < 4) (o : Option Nat) (l : List Att) : (encThr s gb).toArray.setIfInBounds (2 * t) (openV gb o) = (encThr ⟨l, upd s.opn t o, s.ended⟩ gb).toArray := by
  rcases four h with rfl | rfl | rfl | rfl <;> rfl
theorem encThr_set_ended (s : HS) (gb : Nat → Nat) {t : Nat} (h : t < 4) (b : Bool) (l : List Att) : (encThr s gb).toArray.setIfInBounds (2 * t + 1) (.bool b) = (encThr ⟨l, s.opn, upd s.ended t b⟩ gb).toArray := by
  rcases four h with rfl | rfl | rfl | rfl <;> rfl
theorem openV_congr {gb gb' : Nat → Nat} {o : Option Nat} (h : ∀ j, o = some j → gb j = gb' j) : openV gb o = openV gb' o := by
  cases o with
  | none => rfl
  | some j => simp [openV, h j rfl]
theorem encThr_congr {s : HS} {gb gb' : Nat → Nat} (h : ∀ t j, s.opn t = some j → gb j = gb' j) : encThr s gb = encThr s gb' := by
  unfold encThr
  rw [openV_congr (h 0), openV_congr (h 1), openV_congr (h 2), openV_congr (h 3)]

def ptrs (gb : Nat → Nat) (n : Nat) : List Value := (List.range n).map fun j => .pointer (some ⟨gb j, 0, none⟩)
theorem ptrs_at {gb : Nat → Nat} {n j : Nat} (h : j < n) : (ptrs gb n)[j]? = some (.pointer (some ⟨gb j, 0, none⟩)) := by simp [ptrs, h]
theorem ptrs_snoc (gb : Nat → Nat) (n g : Nat) : ptrs (upd gb n g) (n + 1) = ptrs gb n ++ [.pointer (some ⟨g, 0, none⟩)] := by
  unfold ptrs
  rw [List.range_succ, List.map_append]
  congr 1
  · apply List.map_congr_left
    intro j hj
    have := List.mem_range.1 hj
    simp [upd, show j ≠ n from by omega]
  · simp [upd]

theorem AttAt.chg {S : Nat → Prop} {w w' : World} {base g : Nat} {dv : Value} {a : Att} (h : AttAt w base g dv a) (c : Chg S w w') (h1 : ¬ S g) (h2 : ∀ d, dv.ownBlock = some d → ¬ S d) : AttAt w' base g dv a :=
  ⟨chgblk c h.1 h1, h.2.1, ownsRow_chg h.2.2 c h2⟩

end Go.Proofs.Ytlphjkgjcfhihaa

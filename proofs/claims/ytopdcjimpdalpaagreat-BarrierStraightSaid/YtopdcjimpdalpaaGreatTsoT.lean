/- Package tso: a machine that is not there; Register, At. (Written by mktsot.py.) -/
import Derived.Test.YtopdcjimpdalpaaGreatTsoK
namespace Go.Proofs.YtopdcjimpdalpaaGreat
open Go.RowKit
set_option linter.unusedVariables false
set_option linter.unusedSimpArgs false

variable {w w' : World} {base b : Nat} {own own' : Nat → Nat} {mm : MM} {xs : List TX} {mv tv ev : Value}

/-- no machine: nil, or one that no call made -/
def Gone (w : World) (p : Value) : Prop := p = .pointer none ∨ ∃ b, p = .pointer (some ⟨b, 0, none⟩) ∧ w.heap[b]? = some (.cells #[.bool false, .slice none 0 0, .slice none 0 0, .slice none 0 0] 179 (0, 0))
theorem Gone.below {p : Value} (h : Gone w p) (hb : Below w.heap.size w w') : Gone w' p := by
  rcases h with rfl | ⟨b, rfl, h⟩
  · exact .inl rfl
  · exact .inr ⟨b, rfl, (hb.block b (lt_of_block h)).trans h⟩

set_option maxHeartbeats 1000000 in
theorem of_gone {p : Value} (h : Gone w p) (z : Int) : Calls Tryz.prog 100 #[p, .int .i64 z] w fun r w' => r = .returned (.pointer none) ∧ w' = w := by
  rcases h with rfl | ⟨b, rfl, h⟩
  · go_enter Tryz.func100, Tryz.ntmps100
    go_wp2_with fail
    go_ret
    exact ⟨rfl, rfl⟩
  · have c0 := cell_of_block (o := 0) h rfl
    have c1 := cell_of_block (o := 1) h rfl
    have c2 := cell_of_block (o := 2) h rfl
    have c3 := cell_of_block (o := 3) h rfl
    clear h
    go_enter Tryz.func100, Tryz.ntmps100
    go_wp2_with fail
    go_ret
    exact ⟨rfl, rfl⟩

set_option maxHeartbeats 1000000 in
theorem seen_gone {p : Value} (h : Gone w p) : Calls Tryz.prog 68 #[p] w fun r w' => r = .returned (.slice none 0 0) ∧ w' = w := by
  rcases h with rfl | ⟨b, rfl, h⟩
  · go_enter Tryz.func68, Tryz.ntmps68
    go_wp2_with fail
    go_ret
    exact ⟨rfl, rfl⟩
  · have c0 := cell_of_block (o := 0) h rfl
    have c1 := cell_of_block (o := 1) h rfl
    have c2 := cell_of_block (o := 2) h rfl
    have c3 := cell_of_block (o := 3) h rfl
    clear h
    go_enter Tryz.func68, Tryz.ntmps68
    go_wp2_with fail
    go_ret
    exact ⟨rfl, rfl⟩

set_option maxHeartbeats 1000000 in
theorem flush_gone {p : Value} (h : Gone w p) (z : Int) : Calls Tryz.prog 66 #[p, .int .i64 z] w fun r w' => r = .returned (.bool false) ∧ w' = w := by
  have H := hidI h
  clear h
  go_enter Tryz.func66, Tryz.ntmps66
  go_wp2_with fail
  refine (of_gone H.out _).mono ?_
  rintro e w1 ⟨rfl, rfl⟩
  go_wp2_with fail
  go_ret
  exact ⟨rfl, rfl⟩

set_option maxHeartbeats 1000000 in
theorem step_gone {p : Value} (h : Gone w p) (z : Int) :
    Calls Tryz.prog 63 #[p, .int .i64 z] w fun r w' => r = .returned (.bool false) ∧ Below w.heap.size w w' := by
  have H := hidI h
  have HB := hidI ((((Below.refl w.heap.size w).alloc (Nat.le_refl _) (.cells #[p] 144)).alloc (by simp) (.cells #[.bool false] 4)))
  obtain ⟨q, rfl⟩ : ∃ q, p = .pointer q := by
    rcases h with rfl | ⟨b, rfl, h⟩
    · exact ⟨_, rfl⟩
    · exact ⟨_, rfl⟩
  clear h
  go_enter_defers Tryz.func63, Tryz.ntmps63
  go_wp2_with fail
  refine (of_gone (H.out.below HB.out) z).mono ?_
  rintro e w1 ⟨rfl, rfl⟩
  go_wp2_with fail
  refine ⟨.bool false, ?_, rfl, HB.out.alloc (by simp; omega) _⟩
  simp [results, Tryz.results63, go_sem]

end Go.Proofs.YtopdcjimpdalpaaGreat

/- Package tso: a machine that is not there; Register, At. (Written by mktsot.py.) -/
import Derived.Test.YtnechkhgceeejaaTsoK
namespace Go.Proofs.Ytnechkhgceeejaa
open Go.RowKit
set_option linter.unusedVariables false
set_option linter.unusedSimpArgs false

variable {w w' : World} {base b : Nat} {own own' : Nat → Nat} {mm : MM} {xs : List TX} {mv tv ev : Value}

/-- no machine: nil, or one that no call made -/
def Gone (w : World) (p : Value) : Prop := p = .pointer none ∨ ∃ b, p = .pointer (some ⟨b, 0, none⟩) ∧ w.heap[b]? = some (.cells #[.bool false, .slice none 0 0, .slice none 0 0, .slice none 0 0] 74 (0, 0))
theorem Gone.below {p : Value} (h : Gone w p) (hb : Below w.heap.size w w') : Gone w' p := by
  rcases h with rfl | ⟨b, rfl, h⟩
  · exact .inl rfl
  · exact .inr ⟨b, rfl, (hb.block b (lt_of_block h)).trans h⟩

set_option maxHeartbeats 1000000 in
theorem of_gone {p : Value} (h : Gone w p) (z : Int) : Calls Try.prog 38 #[p, .int .i64 z] w fun r w' => r = .returned (.pointer none) ∧ w' = w := by
  rcases h with rfl | ⟨b, rfl, h⟩
  · go_enter Try.func38, Try.ntmps38
    go_wp2_with fail
    go_ret
    exact ⟨rfl, rfl⟩
  · have c0 := cell_of_block (o := 0) h rfl
    have c1 := cell_of_block (o := 1) h rfl
    have c2 := cell_of_block (o := 2) h rfl
    have c3 := cell_of_block (o := 3) h rfl
    clear h
    go_enter Try.func38, Try.ntmps38
    go_wp2_with fail
    go_ret
    exact ⟨rfl, rfl⟩

set_option maxHeartbeats 1000000 in
theorem seen_gone {p : Value} (h : Gone w p) : Calls Try.prog 18 #[p] w fun r w' => r = .returned (.slice none 0 0) ∧ w' = w := by
  rcases h with rfl | ⟨b, rfl, h⟩
  · go_enter Try.func18, Try.ntmps18
    go_wp2_with fail
    go_ret
    exact ⟨rfl, rfl⟩
  · have c0 := cell_of_block (o := 0) h rfl
    have c1 := cell_of_block (o := 1) h rfl
    have c2 := cell_of_block (o := 2) h rfl
    have c3 := cell_of_block (o := 3) h rfl
    clear h
    go_enter Try.func18, Try.ntmps18
    go_wp2_with fail
    go_ret
    exact ⟨rfl, rfl⟩

set_option maxHeartbeats 1000000 in
theorem copy_gone {p : Value} (h : Gone w p) : Calls Try.prog 29 #[p] w fun r w' => r = .returned (.pointer none) ∧ w' = w := by
  rcases h with rfl | ⟨b, rfl, h⟩
  · go_enter Try.func29, Try.ntmps29
    go_wp2_with fail
    go_ret
    exact ⟨rfl, rfl⟩
  · have c0 := cell_of_block (o := 0) h rfl
    have c1 := cell_of_block (o := 1) h rfl
    have c2 := cell_of_block (o := 2) h rfl
    have c3 := cell_of_block (o := 3) h rfl
    clear h
    go_enter Try.func29, Try.ntmps29
    go_wp2_with fail
    go_ret
    exact ⟨rfl, rfl⟩

set_option maxHeartbeats 1000000 in
theorem flush_gone {p : Value} (h : Gone w p) (z : Int) : Calls Try.prog 26 #[p, .int .i64 z] w fun r w' => r = .returned (.bool false) ∧ w' = w := by
  have H := hidI h
  clear h
  go_enter Try.func26, Try.ntmps26
  go_wp2_with fail
  refine (of_gone H.out _).mono ?_
  rintro e w1 ⟨rfl, rfl⟩
  go_wp2_with fail
  go_ret
  exact ⟨rfl, rfl⟩

set_option maxHeartbeats 1000000 in
theorem register_gone {p : Value} (h : Gone w p) (z r : Int) : Calls Try.prog 15 #[p, .int .i64 z, .int .i64 r] w fun r w' => r = .returned (.tuple #[.int .i64 0, .bool false]) ∧ w' = w := by
  have H := hidI h
  clear h
  go_enter Try.func15, Try.ntmps15
  go_wp2_with fail
  refine (of_gone H.out _).mono ?_
  rintro e w1 ⟨rfl, rfl⟩
  go_wp2_with fail
  go_ret2
  exact ⟨rfl, rfl⟩

set_option maxHeartbeats 1000000 in
theorem at_gone {p : Value} (h : Gone w p) (z : Int) : Calls Try.prog 17 #[p, .int .i64 z] w fun r w' => r = .returned (.tuple #[.int .i64 0, .bool false]) ∧ w' = w := by
  have H := hidI h
  clear h
  go_enter Try.func17, Try.ntmps17
  go_wp2_with fail
  refine (of_gone H.out _).mono ?_
  rintro e w1 ⟨rfl, rfl⟩
  go_wp2_with fail
  go_ret2
  exact ⟨rfl, rfl⟩

set_option maxHeartbeats 1000000 in
theorem waiting_gone {p : Value} (h : Gone w p) (z : Int) : Calls Try.prog 25 #[p, .int .i64 z] w fun r w' => r = .returned (.slice none 0 0) ∧ w' = w := by
  have H := hidI h
  clear h
  go_enter Try.func25, Try.ntmps25
  go_wp2_with fail
  refine (of_gone H.out _).mono ?_
  rintro e w1 ⟨rfl, rfl⟩
  go_wp2_with fail
  go_ret
  exact ⟨rfl, rfl⟩

set_option maxHeartbeats 1000000 in
theorem word_gone {p : Value} (h : Gone w p) (z : Int) : Calls Try.prog 16 #[p, .int .i64 z] w fun r w' => r = .returned (.tuple #[.int .i64 0, .bool false]) ∧ w' = w := by
  rcases h with rfl | ⟨b, rfl, h⟩
  · go_enter Try.func16, Try.ntmps16
    go_wp2_with fail
    go_ret2
    exact ⟨rfl, rfl⟩
  · have c1 := cell_of_block (o := 1) h rfl
    clear h
    by_cases h0 : z < 0
    · go_enter Try.func16, Try.ntmps16
      go_wp2_with fail
      go_ret2
      exact ⟨rfl, rfl⟩
    · have h1 : 0 ≤ z := by omega
      clear h0
      go_enter Try.func16, Try.ntmps16
      go_wp2_with fail
      go_ret2
      exact ⟨rfl, rfl⟩

set_option maxHeartbeats 1000000 in
theorem step_gone {p : Value} (h : Gone w p) (z : Int) :
    Calls Try.prog 14 #[p, .int .i64 z] w fun r w' => r = .returned (.bool false) ∧ Below w.heap.size w w' := by
  have H := hidI h
  have HB := hidI ((((Below.refl w.heap.size w).alloc (Nat.le_refl _) (.cells #[p] 29)).alloc (by simp) (.cells #[.bool false] 4)))
  obtain ⟨q, rfl⟩ : ∃ q, p = .pointer q := by
    rcases h with rfl | ⟨b, rfl, h⟩
    · exact ⟨_, rfl⟩
    · exact ⟨_, rfl⟩
  clear h
  go_enter_defers Try.func14, Try.ntmps14
  go_wp2_with fail
  refine (of_gone (H.out.below HB.out) z).mono ?_
  rintro e w1 ⟨rfl, rfl⟩
  go_wp2_with fail
  refine ⟨.bool false, ?_, rfl, HB.out.alloc (by simp; omega) _⟩
  simp [results, Try.results14, go_sem]

set_option maxHeartbeats 1000000 in
theorem register_yes {tb cap n : Nat} {x : TX} (h : MAt w base b own mm xs mv (.slice (some ⟨tb, 0, none⟩) xs.length cap) ev) (hx : xs[n]? = some x) {r : Nat} (hr : r < 8) :
    Calls Try.prog 15 #[.pointer (some ⟨b, 0, none⟩), .int .i64 (n : Int), .int .i64 (r : Int)] w fun e w' => e = .returned (.tuple #[.int .i64 (x.th.reg r), .bool true]) ∧ w' = w := by
  have rA : w.cell? ⟨tb, n * 13 + 1 + r, none⟩ = some (.int .i64 (x.th.reg r)) := by rw [Nat.add_assoc]; exact h.cell hx _ _ (encX_reg x r hr)
  have hri : (r : Int) < 8 := by omega
  have H := hidI h
  have HX := hidI hx
  clear h hx
  go_enter Try.func15, Try.ntmps15
  go_wp2_with fail
  refine (of_yes H.out HX.out).mono ?_
  rintro e w1 ⟨rfl, rfl⟩
  go_wp2_with fail
  go_ret2
  exact ⟨rfl, rfl⟩
end Go.Proofs.Ytnechkhgceeejaa

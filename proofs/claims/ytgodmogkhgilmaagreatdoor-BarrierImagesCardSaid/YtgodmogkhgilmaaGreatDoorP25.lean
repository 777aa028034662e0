/- Part of the proof: TsoC -/
import Derived.Test.YtgodmogkhgilmaaGreatDoorP24
namespace Go.Proofs.YtgodmogkhgilmaaGreatDoor
open Go.RowKit
set_option linter.unusedVariables false
set_option linter.unusedSimpArgs false
set_option maxHeartbeats 1000000
def doV (c a b : Int) : Int := (calcS c a b).getD 0
def doE (c a b : Int) : Int := if (calcS c a b).isSome = true then 0 else if c = 4 ∨ c = 5 then 4 else 1
theorem doV_some {c a b v : Int} (h : calcS c a b = some v) : doV c a b = v := by unfold doV; rw [h]; rfl
theorem doE_some {c a b v : Int} (h : calcS c a b = some v) : doE c a b = 0 := by unfold doE; rw [h]; rfl
theorem doV_none {c a b : Int} (h : calcS c a b = none) : doV c a b = 0 := by unfold doV; rw [h]; rfl
theorem doE_none {c a b : Int} (h : calcS c a b = none) : doE c a b = if c = 4 ∨ c = 5 then 4 else 1 := by unfold doE; rw [h]; rfl
def DoPost (c a b : Int) (w : World) (r : Ending) (w' : World) : Prop := r = .returned (.tuple #[.int .i64 (doV c a b), .int .i64 (doE c a b)]) ∧ w' = w
theorem DoPost.some {c a b v : Int} {w : World} {r : Ending} {w' : World} (h : calcS c a b = some v) (hr : r = .returned (.tuple #[.int .i64 v, .int .i64 0])) (hw : w' = w) : DoPost c a b w r w' := by
  refine ⟨?_, hw⟩
  rw [doV_some h, doE_some h]
  exact hr
theorem DoPost.none {c a b : Int} {w : World} {r : Ending} {w' : World} (h : calcS c a b = none) (hr : r = .returned (.tuple #[.int .i64 0, .int .i64 (if c = 4 ∨ c = 5 then 4 else 1)])) (hw : w' = w) : DoPost c a b w r w' := by
  refine ⟨?_, hw⟩
  rw [doV_none h, doE_none h]
  exact hr
theorem truth_any (w : World) (x : Bool) : Calls Tryz.prog 271 #[.bool x] w fun r w' => r = .returned (.int .i64 (truthI x)) ∧ w' = w := by
  cases x with
  | true =>
    go_enter Tryz.func271, Tryz.ntmps271
    go_wp2_with fail
    go_ret
    exact ⟨rfl, rfl⟩
  | false =>
    go_enter Tryz.func271, Tryz.ntmps271
    go_wp2_with fail
    go_ret
    exact ⟨rfl, rfl⟩
theorem do_1 (w : World) (a b : Int) : Calls Tryz.prog 267 #[.int .u8 1, .int .i64 a, .int .i64 b] w (DoPost 1 a b w) := by
  go_enter Tryz.func267, Tryz.ntmps267
  go_wp2_with fail
  go_ret2
  exact .some rfl rfl rfl
theorem do_2 (w : World) (a b : Int) : Calls Tryz.prog 267 #[.int .u8 2, .int .i64 a, .int .i64 b] w (DoPost 2 a b w) := by
  go_enter Tryz.func267, Tryz.ntmps267
  go_wp2_with fail
  go_ret2
  exact .some rfl rfl rfl
theorem do_3 (w : World) (a b : Int) : Calls Tryz.prog 267 #[.int .u8 3, .int .i64 a, .int .i64 b] w (DoPost 3 a b w) := by
  go_enter Tryz.func267, Tryz.ntmps267
  go_wp2_with fail
  go_ret2
  exact .some rfl rfl rfl
theorem do_6 (w : World) (a b : Int) : Calls Tryz.prog 267 #[.int .u8 6, .int .i64 a, .int .i64 b] w (DoPost 6 a b w) := by
  go_enter Tryz.func267, Tryz.ntmps267
  go_wp2_with fail
  go_ret2
  exact .some rfl rfl rfl
theorem do_7 (w : World) (a b : Int) : Calls Tryz.prog 267 #[.int .u8 7, .int .i64 a, .int .i64 b] w (DoPost 7 a b w) := by
  go_enter Tryz.func267, Tryz.ntmps267
  go_wp2_with fail
  go_ret2
  exact .some rfl rfl rfl
theorem do_8 (w : World) (a b : Int) : Calls Tryz.prog 267 #[.int .u8 8, .int .i64 a, .int .i64 b] w (DoPost 8 a b w) := by
  go_enter Tryz.func267, Tryz.ntmps267
  go_wp2_with fail
  go_ret2
  exact .some rfl rfl rfl
theorem do_4 (w : World) (a b : Int) (h : b ≠ 0) : Calls Tryz.prog 267 #[.int .u8 4, .int .i64 a, .int .i64 b] w (DoPost 4 a b w) := by
  have hb : (b == 0) = false := by rw [beq_eq_false_iff_ne]; exact h
  go_enter Tryz.func267, Tryz.ntmps267
  go_wp2_with fail
  go_ret2
  refine .some ?_ rfl rfl
  unfold calcS
  simp [h, w64, IntWalk.i64_left]
theorem do_4z (w : World) (a b : Int) (h : b = 0) : Calls Tryz.prog 267 #[.int .u8 4, .int .i64 a, .int .i64 b] w (DoPost 4 a b w) := by
  subst h
  go_enter Tryz.func267, Tryz.ntmps267
  go_wp2_with fail
  go_ret2
  exact .none rfl rfl rfl
theorem do_5 (w : World) (a b : Int) (h : b ≠ 0) : Calls Tryz.prog 267 #[.int .u8 5, .int .i64 a, .int .i64 b] w (DoPost 5 a b w) := by
  have hb : (b == 0) = false := by rw [beq_eq_false_iff_ne]; exact h
  go_enter Tryz.func267, Tryz.ntmps267
  go_wp2_with fail
  go_ret2
  refine .some ?_ rfl rfl
  unfold calcS
  simp [h, w64, IntWalk.i64_left]
theorem do_5z (w : World) (a b : Int) (h : b = 0) : Calls Tryz.prog 267 #[.int .u8 5, .int .i64 a, .int .i64 b] w (DoPost 5 a b w) := by
  subst h
  go_enter Tryz.func267, Tryz.ntmps267
  go_wp2_with fail
  go_ret2
  exact .none rfl rfl rfl
theorem do_9 (w : World) (a b : Int) : Calls Tryz.prog 267 #[.int .u8 9, .int .i64 a, .int .i64 b] w (DoPost 9 a b w) := by
  go_enter Tryz.func267, Tryz.ntmps267
  go_wp2_with fail
  go_ret2
  exact .some rfl rfl rfl
theorem do_10 (w : World) (a b : Int) : Calls Tryz.prog 267 #[.int .u8 10, .int .i64 a, .int .i64 b] w (DoPost 10 a b w) := by
  go_enter Tryz.func267, Tryz.ntmps267
  go_wp2_with fail
  go_ret2
  exact .some rfl rfl rfl
theorem do_11 (w : World) (a b : Int) : Calls Tryz.prog 267 #[.int .u8 11, .int .i64 a, .int .i64 b] w (DoPost 11 a b w) := by
  go_enter Tryz.func267, Tryz.ntmps267
  go_wp2_with fail
  refine (truth_any w _).mono ?_
  rintro r w1 ⟨rfl, rfl⟩
  go_wp2_with fail
  go_ret2
  exact .some rfl rfl rfl
theorem do_12 (w : World) (a b : Int) : Calls Tryz.prog 267 #[.int .u8 12, .int .i64 a, .int .i64 b] w (DoPost 12 a b w) := by
  go_enter Tryz.func267, Tryz.ntmps267
  go_wp2_with fail
  refine (truth_any w _).mono ?_
  rintro r w1 ⟨rfl, rfl⟩
  go_wp2_with fail
  go_ret2
  exact .some rfl rfl rfl
theorem do_13 (w : World) (a b : Int) : Calls Tryz.prog 267 #[.int .u8 13, .int .i64 a, .int .i64 b] w (DoPost 13 a b w) := by
  go_enter Tryz.func267, Tryz.ntmps267
  go_wp2_with fail
  refine (truth_any w _).mono ?_
  rintro r w1 ⟨rfl, rfl⟩
  go_wp2_with fail
  go_ret2
  exact .some rfl rfl rfl
theorem do_14 (w : World) (a b : Int) : Calls Tryz.prog 267 #[.int .u8 14, .int .i64 a, .int .i64 b] w (DoPost 14 a b w) := by
  go_enter Tryz.func267, Tryz.ntmps267
  go_wp2_with fail
  refine (truth_any w _).mono ?_
  rintro r w1 ⟨rfl, rfl⟩
  go_wp2_with fail
  go_ret2
  exact .some rfl rfl rfl
theorem do_no (w : World) (c a b : Int) (h : ¬ (1 ≤ c ∧ c ≤ 14)) : Calls Tryz.prog 267 #[.int .u8 c, .int .i64 a, .int .i64 b] w (DoPost c a b w) := by
  have k1 : (c == 1) = false := by rw [beq_eq_false_iff_ne]; omega
  have k2 : (c == 2) = false := by rw [beq_eq_false_iff_ne]; omega
  have k3 : (c == 3) = false := by rw [beq_eq_false_iff_ne]; omega
  have k4 : (c == 4) = false := by rw [beq_eq_false_iff_ne]; omega
  have k5 : (c == 5) = false := by rw [beq_eq_false_iff_ne]; omega
  have k6 : (c == 6) = false := by rw [beq_eq_false_iff_ne]; omega
  have k7 : (c == 7) = false := by rw [beq_eq_false_iff_ne]; omega
  have k8 : (c == 8) = false := by rw [beq_eq_false_iff_ne]; omega
  have k9 : (c == 9) = false := by rw [beq_eq_false_iff_ne]; omega
  have k10 : (c == 10) = false := by rw [beq_eq_false_iff_ne]; omega
  have k11 : (c == 11) = false := by rw [beq_eq_false_iff_ne]; omega
  have k12 : (c == 12) = false := by rw [beq_eq_false_iff_ne]; omega
  have k13 : (c == 13) = false := by rw [beq_eq_false_iff_ne]; omega
  have k14 : (c == 14) = false := by rw [beq_eq_false_iff_ne]; omega
  have hn : calcS c a b = none := by
    unfold calcS
    rw [if_neg (by omega), if_neg (by omega), if_neg (by omega), if_neg (by omega), if_neg (by omega), if_neg (by omega), if_neg (by omega), if_neg (by omega), if_neg (by omega), if_neg (by omega), if_neg (by omega), if_neg (by omega), if_neg (by omega), if_neg (by omega)]
  clear h
  go_enter Tryz.func267, Tryz.ntmps267
  go_wp2_with fail
  go_ret2
  exact .none hn (by rw [if_neg (by rw [beq_eq_false_iff_ne] at k4 k5; omega)]; rfl) rfl
theorem do_any (w : World) (c a b : Int) : Calls Tryz.prog 267 #[.int .u8 c, .int .i64 a, .int .i64 b] w (DoPost c a b w) := by
  by_cases h : 1 ≤ c ∧ c ≤ 14
  · rcases (by omega : c = 1 ∨ c = 2 ∨ c = 3 ∨ c = 4 ∨ c = 5 ∨ c = 6 ∨ c = 7 ∨ c = 8 ∨ c = 9 ∨ c = 10 ∨ c = 11 ∨ c = 12 ∨ c = 13 ∨ c = 14) with rfl | rfl | rfl | rfl | rfl | rfl | rfl | rfl | rfl | rfl | rfl | rfl | rfl | rfl
    · exact do_1 w a b
    · exact do_2 w a b
    · exact do_3 w a b
    · by_cases hb : b = 0
      · exact do_4z w a b hb
      · exact do_4 w a b hb
    · by_cases hb : b = 0
      · exact do_5z w a b hb
      · exact do_5 w a b hb
    · exact do_6 w a b
    · exact do_7 w a b
    · exact do_8 w a b
    · exact do_9 w a b
    · exact do_10 w a b
    · exact do_11 w a b
    · exact do_12 w a b
    · exact do_13 w a b
    · exact do_14 w a b
  · exact do_no w c a b h
end Go.Proofs.YtgodmogkhgilmaaGreatDoor

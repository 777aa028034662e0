/- The document's turnstileref01.Do: what word.Do answers. (Written by mkrefc.py.) -/
import Derived.Test.YthmmbldhbdnfpaaGreatDoorMTsoA
namespace Go.Proofs.YthmmbldhbdnfpaaGreatDoor
open Go.RowKit
set_option linter.unusedVariables false
set_option linter.unusedSimpArgs false

theorem rtruth_any (w : World) (x : Bool) : Calls Tryz.prog 257 #[.bool x] w fun r w' => r = .returned (.int .i64 (truthI x)) ∧ w' = w := by
  cases x with
  | true =>
    go_enter Tryz.func257, Tryz.ntmps257
    go_wp2_with fail
    go_ret
    exact ⟨rfl, rfl⟩
  | false =>
    go_enter Tryz.func257, Tryz.ntmps257
    go_wp2_with fail
    go_ret
    exact ⟨rfl, rfl⟩
theorem u64_eq (x : Int) : IntKind.u64.wrap x = x % 18446744073709551616 := by
  have h1 : IntKind.u64.signed = false := rfl
  have h2 : IntKind.u64.bits = 64 := rfl
  unfold IntKind.wrap
  simp only [h1, h2]
  simp
theorem wrap64_u (x : Int) : wrap64 (IntKind.u64.wrap x) = wrap64 x := by
  rw [u64_eq]; unfold wrap64; omega
theorem wrap64_mod {x y : Int} (h : x % 18446744073709551616 = y % 18446744073709551616) : wrap64 x = wrap64 y := by
  unfold wrap64; omega
theorem u64_add (a b : Int) : wrap64 (IntKind.u64.wrap (IntKind.u64.wrap a + IntKind.u64.wrap b)) = wrap64 (a + b) := by
  rw [wrap64_u, u64_eq, u64_eq]
  exact wrap64_mod (by rw [← Int.add_emod])
theorem u64_sub (a b : Int) : wrap64 (IntKind.u64.wrap (IntKind.u64.wrap a - IntKind.u64.wrap b)) = wrap64 (a - b) := by
  rw [wrap64_u, u64_eq, u64_eq]
  exact wrap64_mod (by rw [← Int.sub_emod])
theorem u64_mul (a b : Int) : wrap64 (IntKind.u64.wrap (IntKind.u64.wrap a * IntKind.u64.wrap b)) = wrap64 (a * b) := by
  rw [wrap64_u, u64_eq, u64_eq]
  exact wrap64_mod (by rw [← Int.mul_emod])
theorem u64_shl (a c : Int) : wrap64 (IntKind.u64.wrap (IntKind.u64.wrap a * c)) = wrap64 (a * c) := by
  rw [wrap64_u, u64_eq]
  exact wrap64_mod (by rw [Int.mul_emod, Int.emod_emod_of_dvd _ (Int.dvd_refl _), ← Int.mul_emod])

set_option maxHeartbeats 1000000 in
theorem rasked_6 (w : World) (a b : Int) : Calls Tryz.prog 254 #[.int .u8 6, .int .i64 a, .int .i64 b] w (DoPost 6 a b w) := by
  go_enter Tryz.func254, Tryz.ntmps254
  go_wp2_with fail
  go_ret2
  exact .some rfl rfl rfl

set_option maxHeartbeats 1000000 in
theorem rasked_7 (w : World) (a b : Int) : Calls Tryz.prog 254 #[.int .u8 7, .int .i64 a, .int .i64 b] w (DoPost 7 a b w) := by
  go_enter Tryz.func254, Tryz.ntmps254
  go_wp2_with fail
  go_ret2
  exact .some rfl rfl rfl

set_option maxHeartbeats 1000000 in
theorem rasked_8 (w : World) (a b : Int) : Calls Tryz.prog 254 #[.int .u8 8, .int .i64 a, .int .i64 b] w (DoPost 8 a b w) := by
  go_enter Tryz.func254, Tryz.ntmps254
  go_wp2_with fail
  go_ret2
  exact .some rfl rfl rfl

set_option maxHeartbeats 1000000 in
theorem rasked_10 (w : World) (a b : Int) : Calls Tryz.prog 254 #[.int .u8 10, .int .i64 a, .int .i64 b] w (DoPost 10 a b w) := by
  go_enter Tryz.func254, Tryz.ntmps254
  go_wp2_with fail
  go_ret2
  exact .some rfl rfl rfl

set_option maxHeartbeats 1000000 in
theorem rasked_9 (w : World) (a b : Int) : Calls Tryz.prog 254 #[.int .u8 9, .int .i64 a, .int .i64 b] w (DoPost 9 a b w) := by
  go_enter Tryz.func254, Tryz.ntmps254
  go_wp2_with fail
  go_ret2
  refine .some (v := w64 (a * 2 ^ min (IntKind.u64.wrap (bits BinOp.and IntKind.i64 b 63)).toNat 64)) rfl ?_ rfl
  simp only [u64_shl]
  rfl

set_option maxHeartbeats 1000000 in
theorem rasked_11 (w : World) (a b : Int) : Calls Tryz.prog 254 #[.int .u8 11, .int .i64 a, .int .i64 b] w (DoPost 11 a b w) := by
  go_enter Tryz.func254, Tryz.ntmps254
  go_wp2_with fail
  refine (rtruth_any w _).mono ?_
  rintro r w1 ⟨rfl, rfl⟩
  go_wp2_with fail
  go_ret2
  exact .some rfl rfl rfl

set_option maxHeartbeats 1000000 in
theorem rasked_12 (w : World) (a b : Int) : Calls Tryz.prog 254 #[.int .u8 12, .int .i64 a, .int .i64 b] w (DoPost 12 a b w) := by
  go_enter Tryz.func254, Tryz.ntmps254
  go_wp2_with fail
  refine (rtruth_any w _).mono ?_
  rintro r w1 ⟨rfl, rfl⟩
  go_wp2_with fail
  go_ret2
  exact .some rfl rfl rfl

set_option maxHeartbeats 1000000 in
theorem rasked_13 (w : World) (a b : Int) : Calls Tryz.prog 254 #[.int .u8 13, .int .i64 a, .int .i64 b] w (DoPost 13 a b w) := by
  go_enter Tryz.func254, Tryz.ntmps254
  go_wp2_with fail
  refine (rtruth_any w _).mono ?_
  rintro r w1 ⟨rfl, rfl⟩
  go_wp2_with fail
  go_ret2
  exact .some rfl rfl rfl

set_option maxHeartbeats 1000000 in
theorem rasked_14 (w : World) (a b : Int) : Calls Tryz.prog 254 #[.int .u8 14, .int .i64 a, .int .i64 b] w (DoPost 14 a b w) := by
  go_enter Tryz.func254, Tryz.ntmps254
  go_wp2_with fail
  refine (rtruth_any w _).mono ?_
  rintro r w1 ⟨rfl, rfl⟩
  go_wp2_with fail
  go_ret2
  exact .some rfl rfl rfl

set_option maxHeartbeats 1000000 in
theorem rasked_no (w : World) (c a b : Int) (h : ¬ (1 ≤ c ∧ c ≤ 14)) : Calls Tryz.prog 254 #[.int .u8 c, .int .i64 a, .int .i64 b] w (DoPost c a b w) := by
  have k1 : (c == 1) = false := by rw [beq_eq_false_iff_ne]; omega
  have k2 : (c == 2) = false := by rw [beq_eq_false_iff_ne]; omega
  have k3 : (c == 3) = false := by rw [beq_eq_false_iff_ne]; omega
  have k4 : (c == 4) = false := by rw [beq_eq_false_iff_ne]; omega
  have k5 : (c == 5) = false := by rw [beq_eq_false_iff_ne]; omega
  have k6 : (c == 6) = false := by rw [beq_eq_false_iff_ne]; omega
  have k7 : (c == 7) = false := by rw [beq_eq_false_iff_ne]; omega
  have k8 : (c == 8) = false := by rw [beq_eq_false_iff_ne]; omega
  have k9 : (c == 9) = false := by rw [beq_eq_false_iff_ne]; omega
  have k10 : (c == 10) = false := by rw [beq_eq_false_iff_ne]; omega
  have k11 : (c == 11) = false := by rw [beq_eq_false_iff_ne]; omega
  have k12 : (c == 12) = false := by rw [beq_eq_false_iff_ne]; omega
  have k13 : (c == 13) = false := by rw [beq_eq_false_iff_ne]; omega
  have k14 : (c == 14) = false := by rw [beq_eq_false_iff_ne]; omega
  have hn : calcS c a b = none := by
    unfold calcS
    rw [if_neg (by omega), if_neg (by omega), if_neg (by omega), if_neg (by omega), if_neg (by omega), if_neg (by omega), if_neg (by omega), if_neg (by omega), if_neg (by omega), if_neg (by omega), if_neg (by omega), if_neg (by omega), if_neg (by omega), if_neg (by omega)]
  clear h
  go_enter Tryz.func254, Tryz.ntmps254
  go_wp2_with fail
  go_ret2
  exact .none hn (by rw [if_neg (by rw [beq_eq_false_iff_ne] at k4 k5; omega)]; rfl) rfl

theorem rasked_any (w : World) (c a b : Int) (h : ¬ (1 ≤ c ∧ c ≤ 5)) : Calls Tryz.prog 254 #[.int .u8 c, .int .i64 a, .int .i64 b] w (DoPost c a b w) := by
  by_cases h' : 6 ≤ c ∧ c ≤ 14
  · rcases (by omega : c = 6 ∨ c = 7 ∨ c = 8 ∨ c = 9 ∨ c = 10 ∨ c = 11 ∨ c = 12 ∨ c = 13 ∨ c = 14) with rfl | rfl | rfl | rfl | rfl | rfl | rfl | rfl | rfl
    · exact rasked_6 w a b
    · exact rasked_7 w a b
    · exact rasked_8 w a b
    · exact rasked_9 w a b
    · exact rasked_10 w a b
    · exact rasked_11 w a b
    · exact rasked_12 w a b
    · exact rasked_13 w a b
    · exact rasked_14 w a b
  · exact rasked_no w c a b (by omega)

set_option maxHeartbeats 1000000 in
theorem rDo_1 (w : World) (a b : Int) : Calls Tryz.prog 192 #[.int .u8 1, .int .i64 a, .int .i64 b] w (DoPost 1 a b w) := by
  go_enter Tryz.func192, Tryz.ntmps192
  go_wp2_with fail
  go_ret2
  refine .some (v := w64 (a + b)) rfl ?_ rfl
  simp only [u64_add]
  rfl

set_option maxHeartbeats 1000000 in
theorem rDo_2 (w : World) (a b : Int) : Calls Tryz.prog 192 #[.int .u8 2, .int .i64 a, .int .i64 b] w (DoPost 2 a b w) := by
  go_enter Tryz.func192, Tryz.ntmps192
  go_wp2_with fail
  go_ret2
  refine .some (v := w64 (a - b)) rfl ?_ rfl
  simp only [u64_sub]
  rfl

set_option maxHeartbeats 1000000 in
theorem rDo_3 (w : World) (a b : Int) : Calls Tryz.prog 192 #[.int .u8 3, .int .i64 a, .int .i64 b] w (DoPost 3 a b w) := by
  go_enter Tryz.func192, Tryz.ntmps192
  go_wp2_with fail
  go_ret2
  refine .some (v := w64 (a * b)) rfl ?_ rfl
  simp only [u64_mul]
  rfl

set_option maxHeartbeats 1000000 in
theorem rDo_4 (w : World) (a b : Int) (h : b ≠ 0) : Calls Tryz.prog 192 #[.int .u8 4, .int .i64 a, .int .i64 b] w (DoPost 4 a b w) := by
  have hb : (b == 0) = false := by rw [beq_eq_false_iff_ne]; exact h
  by_cases ha : a = -9223372036854775808
  · subst ha
    by_cases h1 : b = -1
    · subst h1
      clear h hb
      go_enter Tryz.func192, Tryz.ntmps192
      go_wp2_with fail
      go_ret2
      exact .some (by decide +kernel) rfl rfl
    · have h2 : (b == -1) = false := by rw [beq_eq_false_iff_ne]; exact h1
      go_enter Tryz.func192, Tryz.ntmps192
      go_wp2_with fail
      go_ret2
      refine .some ?_ rfl rfl
      unfold calcS
      simp [h, w64, IntWalk.i64_left]
  · have h2 : (a == -9223372036854775808) = false := by rw [beq_eq_false_iff_ne]; exact ha
    go_enter Tryz.func192, Tryz.ntmps192
    go_wp2_with fail
    go_ret2
    refine .some ?_ rfl rfl
    unfold calcS
    simp [h, w64, IntWalk.i64_left]

set_option maxHeartbeats 1000000 in
theorem rDo_4z (w : World) (a b : Int) (h : b = 0) : Calls Tryz.prog 192 #[.int .u8 4, .int .i64 a, .int .i64 b] w (DoPost 4 a b w) := by
  subst h
  go_enter Tryz.func192, Tryz.ntmps192
  go_wp2_with fail
  go_ret2
  exact .none rfl rfl rfl

set_option maxHeartbeats 1000000 in
theorem rDo_5 (w : World) (a b : Int) (h : b ≠ 0) : Calls Tryz.prog 192 #[.int .u8 5, .int .i64 a, .int .i64 b] w (DoPost 5 a b w) := by
  have hb : (b == 0) = false := by rw [beq_eq_false_iff_ne]; exact h
  by_cases ha : a = -9223372036854775808
  · subst ha
    by_cases h1 : b = -1
    · subst h1
      clear h hb
      go_enter Tryz.func192, Tryz.ntmps192
      go_wp2_with fail
      go_ret2
      exact .some (by decide +kernel) rfl rfl
    · have h2 : (b == -1) = false := by rw [beq_eq_false_iff_ne]; exact h1
      go_enter Tryz.func192, Tryz.ntmps192
      go_wp2_with fail
      go_ret2
      refine .some ?_ rfl rfl
      unfold calcS
      simp [h, w64, IntWalk.i64_left]
      exact Int.tmod_eq_emod_of_nonneg (by decide)
  · have h2 : (a == -9223372036854775808) = false := by rw [beq_eq_false_iff_ne]; exact ha
    go_enter Tryz.func192, Tryz.ntmps192
    go_wp2_with fail
    go_ret2
    refine .some ?_ rfl rfl
    unfold calcS
    simp [h, w64, IntWalk.i64_left]

set_option maxHeartbeats 1000000 in
theorem rDo_5z (w : World) (a b : Int) (h : b = 0) : Calls Tryz.prog 192 #[.int .u8 5, .int .i64 a, .int .i64 b] w (DoPost 5 a b w) := by
  subst h
  go_enter Tryz.func192, Tryz.ntmps192
  go_wp2_with fail
  go_ret2
  exact .none rfl rfl rfl

set_option maxHeartbeats 1000000 in
theorem rdo_rest (w : World) (c a b : Int) (h : ¬ (1 ≤ c ∧ c ≤ 5)) : Calls Tryz.prog 192 #[.int .u8 c, .int .i64 a, .int .i64 b] w (DoPost c a b w) := by
  have k1 : (c == 1) = false := by rw [beq_eq_false_iff_ne]; omega
  have k2 : (c == 2) = false := by rw [beq_eq_false_iff_ne]; omega
  have k3 : (c == 3) = false := by rw [beq_eq_false_iff_ne]; omega
  have k4 : (c == 4) = false := by rw [beq_eq_false_iff_ne]; omega
  have k5 : (c == 5) = false := by rw [beq_eq_false_iff_ne]; omega
  go_enter Tryz.func192, Tryz.ntmps192
  go_wp2_with fail
  refine (rasked_any w c a b h).mono ?_
  rintro r w1 ⟨rfl, rfl⟩
  go_wp2_with fail
  go_ret2
  exact ⟨rfl, rfl⟩

theorem rdo_any (w : World) (c a b : Int) : Calls Tryz.prog 192 #[.int .u8 c, .int .i64 a, .int .i64 b] w (DoPost c a b w) := by
  by_cases h : 1 ≤ c ∧ c ≤ 5
  · rcases (by omega : c = 1 ∨ c = 2 ∨ c = 3 ∨ c = 4 ∨ c = 5) with rfl | rfl | rfl | rfl | rfl
    · exact rDo_1 w a b
    · exact rDo_2 w a b
    · exact rDo_3 w a b
    · by_cases hb : b = 0
      · exact rDo_4z w a b hb
      · exact rDo_4 w a b hb
    · by_cases hb : b = 0
      · exact rDo_5z w a b hb
      · exact rDo_5 w a b hb
  · exact rdo_rest w c a b h
end Go.Proofs.YthmmbldhbdnfpaaGreatDoor

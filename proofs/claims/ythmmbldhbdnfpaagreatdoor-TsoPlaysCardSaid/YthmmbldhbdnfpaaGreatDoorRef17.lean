/- The document's turnstileref17.Check. (Written by mkref17.py out of XIsaA, XIsaB, XIsaC.) -/
import Derived.Test.YthmmbldhbdnfpaaGreatDoorTsoI
namespace Go.Proofs.YthmmbldhbdnfpaaGreatDoor
open Go.RowKit
set_option linter.unusedVariables false
set_option linter.unusedSimpArgs false

set_option maxHeartbeats 1000000 in
theorem fields_1 (w : World) : Calls Tryz.prog 249 #[.int .u8 1] w fun e w' => e = .returned (.tuple #[.agg #[.bool false, .int .i64 1, .bool true], .bool true]) ∧ Below w.heap.size w w' := by
  go_enter Tryz.func249, Tryz.ntmps249
  go_wp2_with fail
  refine bodyPost_ret (v := .tuple #[.agg #[.bool false, .int .i64 1, .bool true], .bool true]) (by simp [results, Tryz.results249, go_sem]) rfl ⟨rfl, ?_⟩
  first | exact Below.refl _ _ | exact (Below.refl _ _).alloc (Nat.le_refl _) _ | exact ((Below.refl _ _).alloc (Nat.le_refl _) _).alloc (by simp) _

set_option maxHeartbeats 1000000 in
theorem fields_2 (w : World) : Calls Tryz.prog 249 #[.int .u8 2] w fun e w' => e = .returned (.tuple #[.agg #[.bool false, .int .i64 2, .bool false], .bool true]) ∧ Below w.heap.size w w' := by
  go_enter Tryz.func249, Tryz.ntmps249
  go_wp2_with fail
  refine bodyPost_ret (v := .tuple #[.agg #[.bool false, .int .i64 2, .bool false], .bool true]) (by simp [results, Tryz.results249, go_sem]) rfl ⟨rfl, ?_⟩
  first | exact Below.refl _ _ | exact (Below.refl _ _).alloc (Nat.le_refl _) _ | exact ((Below.refl _ _).alloc (Nat.le_refl _) _).alloc (by simp) _

set_option maxHeartbeats 1000000 in
theorem fields_3 (w : World) : Calls Tryz.prog 249 #[.int .u8 3] w fun e w' => e = .returned (.tuple #[.agg #[.bool true, .int .i64 2, .bool false], .bool true]) ∧ Below w.heap.size w w' := by
  go_enter Tryz.func249, Tryz.ntmps249
  go_wp2_with fail
  refine bodyPost_ret (v := .tuple #[.agg #[.bool true, .int .i64 2, .bool false], .bool true]) (by simp [results, Tryz.results249, go_sem]) rfl ⟨rfl, ?_⟩
  first | exact Below.refl _ _ | exact (Below.refl _ _).alloc (Nat.le_refl _) _ | exact ((Below.refl _ _).alloc (Nat.le_refl _) _).alloc (by simp) _

set_option maxHeartbeats 1000000 in
theorem fields_4 (w : World) : Calls Tryz.prog 249 #[.int .u8 4] w fun e w' => e = .returned (.tuple #[.agg #[.bool false, .int .i64 2, .bool true], .bool true]) ∧ Below w.heap.size w w' := by
  go_enter Tryz.func249, Tryz.ntmps249
  go_wp2_with fail
  refine bodyPost_ret (v := .tuple #[.agg #[.bool false, .int .i64 2, .bool true], .bool true]) (by simp [results, Tryz.results249, go_sem]) rfl ⟨rfl, ?_⟩
  first | exact Below.refl _ _ | exact (Below.refl _ _).alloc (Nat.le_refl _) _ | exact ((Below.refl _ _).alloc (Nat.le_refl _) _).alloc (by simp) _

set_option maxHeartbeats 1000000 in
theorem fields_5 (w : World) : Calls Tryz.prog 249 #[.int .u8 5] w fun e w' => e = .returned (.tuple #[.agg #[.bool false, .int .i64 2, .bool true], .bool true]) ∧ Below w.heap.size w w' := by
  go_enter Tryz.func249, Tryz.ntmps249
  go_wp2_with fail
  refine bodyPost_ret (v := .tuple #[.agg #[.bool false, .int .i64 2, .bool true], .bool true]) (by simp [results, Tryz.results249, go_sem]) rfl ⟨rfl, ?_⟩
  first | exact Below.refl _ _ | exact (Below.refl _ _).alloc (Nat.le_refl _) _ | exact ((Below.refl _ _).alloc (Nat.le_refl _) _).alloc (by simp) _

set_option maxHeartbeats 1000000 in
theorem fields_6 (w : World) : Calls Tryz.prog 249 #[.int .u8 6] w fun e w' => e = .returned (.tuple #[.agg #[.bool false, .int .i64 0, .bool true], .bool true]) ∧ Below w.heap.size w w' := by
  go_enter Tryz.func249, Tryz.ntmps249
  go_wp2_with fail
  refine bodyPost_ret (v := .tuple #[.agg #[.bool false, .int .i64 0, .bool true], .bool true]) (by simp [results, Tryz.results249, go_sem]) rfl ⟨rfl, ?_⟩
  first | exact Below.refl _ _ | exact (Below.refl _ _).alloc (Nat.le_refl _) _ | exact ((Below.refl _ _).alloc (Nat.le_refl _) _).alloc (by simp) _

set_option maxHeartbeats 1000000 in
theorem fields_7 (w : World) : Calls Tryz.prog 249 #[.int .u8 7] w fun e w' => e = .returned (.tuple #[.agg #[.bool false, .int .i64 1, .bool true], .bool true]) ∧ Below w.heap.size w w' := by
  go_enter Tryz.func249, Tryz.ntmps249
  go_wp2_with fail
  refine bodyPost_ret (v := .tuple #[.agg #[.bool false, .int .i64 1, .bool true], .bool true]) (by simp [results, Tryz.results249, go_sem]) rfl ⟨rfl, ?_⟩
  first | exact Below.refl _ _ | exact (Below.refl _ _).alloc (Nat.le_refl _) _ | exact ((Below.refl _ _).alloc (Nat.le_refl _) _).alloc (by simp) _

set_option maxHeartbeats 1000000 in
theorem fields_8 (w : World) : Calls Tryz.prog 249 #[.int .u8 8] w fun e w' => e = .returned (.tuple #[.agg #[.bool false, .int .i64 3, .bool true], .bool true]) ∧ Below w.heap.size w w' := by
  go_enter Tryz.func249, Tryz.ntmps249
  go_wp2_with fail
  refine bodyPost_ret (v := .tuple #[.agg #[.bool false, .int .i64 3, .bool true], .bool true]) (by simp [results, Tryz.results249, go_sem]) rfl ⟨rfl, ?_⟩
  first | exact Below.refl _ _ | exact (Below.refl _ _).alloc (Nat.le_refl _) _ | exact ((Below.refl _ _).alloc (Nat.le_refl _) _).alloc (by simp) _

set_option maxHeartbeats 1000000 in
theorem fields_9 (w : World) : Calls Tryz.prog 249 #[.int .u8 9] w fun e w' => e = .returned (.tuple #[.agg #[.bool false, .int .i64 2, .bool true], .bool true]) ∧ Below w.heap.size w w' := by
  go_enter Tryz.func249, Tryz.ntmps249
  go_wp2_with fail
  refine bodyPost_ret (v := .tuple #[.agg #[.bool false, .int .i64 2, .bool true], .bool true]) (by simp [results, Tryz.results249, go_sem]) rfl ⟨rfl, ?_⟩
  first | exact Below.refl _ _ | exact (Below.refl _ _).alloc (Nat.le_refl _) _ | exact ((Below.refl _ _).alloc (Nat.le_refl _) _).alloc (by simp) _

set_option maxHeartbeats 1000000 in
theorem fields_10 (w : World) : Calls Tryz.prog 249 #[.int .u8 10] w fun e w' => e = .returned (.tuple #[.agg #[.bool false, .int .i64 0, .bool false], .bool true]) ∧ Below w.heap.size w w' := by
  go_enter Tryz.func249, Tryz.ntmps249
  go_wp2_with fail
  refine bodyPost_ret (v := .tuple #[.agg #[.bool false, .int .i64 0, .bool false], .bool true]) (by simp [results, Tryz.results249, go_sem]) rfl ⟨rfl, ?_⟩
  first | exact Below.refl _ _ | exact (Below.refl _ _).alloc (Nat.le_refl _) _ | exact ((Below.refl _ _).alloc (Nat.le_refl _) _).alloc (by simp) _

set_option maxHeartbeats 1000000 in
theorem fields_11 (w : World) : Calls Tryz.prog 249 #[.int .u8 11] w fun e w' => e = .returned (.tuple #[.agg #[.bool false, .int .i64 1, .bool false], .bool true]) ∧ Below w.heap.size w w' := by
  go_enter Tryz.func249, Tryz.ntmps249
  go_wp2_with fail
  refine bodyPost_ret (v := .tuple #[.agg #[.bool false, .int .i64 1, .bool false], .bool true]) (by simp [results, Tryz.results249, go_sem]) rfl ⟨rfl, ?_⟩
  first | exact Below.refl _ _ | exact (Below.refl _ _).alloc (Nat.le_refl _) _ | exact ((Below.refl _ _).alloc (Nat.le_refl _) _).alloc (by simp) _

set_option maxHeartbeats 1000000 in
theorem fields_12 (w : World) : Calls Tryz.prog 249 #[.int .u8 12] w fun e w' => e = .returned (.tuple #[.agg #[.bool false, .int .i64 2, .bool true], .bool true]) ∧ Below w.heap.size w w' := by
  go_enter Tryz.func249, Tryz.ntmps249
  go_wp2_with fail
  refine bodyPost_ret (v := .tuple #[.agg #[.bool false, .int .i64 2, .bool true], .bool true]) (by simp [results, Tryz.results249, go_sem]) rfl ⟨rfl, ?_⟩
  first | exact Below.refl _ _ | exact (Below.refl _ _).alloc (Nat.le_refl _) _ | exact ((Below.refl _ _).alloc (Nat.le_refl _) _).alloc (by simp) _

set_option maxHeartbeats 1000000 in
theorem fields_13 (w : World) : Calls Tryz.prog 249 #[.int .u8 13] w fun e w' => e = .returned (.tuple #[.agg #[.bool false, .int .i64 0, .bool true], .bool true]) ∧ Below w.heap.size w w' := by
  go_enter Tryz.func249, Tryz.ntmps249
  go_wp2_with fail
  refine bodyPost_ret (v := .tuple #[.agg #[.bool false, .int .i64 0, .bool true], .bool true]) (by simp [results, Tryz.results249, go_sem]) rfl ⟨rfl, ?_⟩
  first | exact Below.refl _ _ | exact (Below.refl _ _).alloc (Nat.le_refl _) _ | exact ((Below.refl _ _).alloc (Nat.le_refl _) _).alloc (by simp) _

set_option maxHeartbeats 1000000 in
theorem fields_14 (w : World) : Calls Tryz.prog 249 #[.int .u8 14] w fun e w' => e = .returned (.tuple #[.agg #[.bool false, .int .i64 0, .bool false], .bool true]) ∧ Below w.heap.size w w' := by
  go_enter Tryz.func249, Tryz.ntmps249
  go_wp2_with fail
  refine bodyPost_ret (v := .tuple #[.agg #[.bool false, .int .i64 0, .bool false], .bool true]) (by simp [results, Tryz.results249, go_sem]) rfl ⟨rfl, ?_⟩
  first | exact Below.refl _ _ | exact (Below.refl _ _).alloc (Nat.le_refl _) _ | exact ((Below.refl _ _).alloc (Nat.le_refl _) _).alloc (by simp) _

set_option maxHeartbeats 1000000 in
theorem fields_15 (w : World) : Calls Tryz.prog 249 #[.int .u8 15] w fun e w' => e = .returned (.tuple #[.agg #[.bool false, .int .i64 2, .bool true], .bool true]) ∧ Below w.heap.size w w' := by
  go_enter Tryz.func249, Tryz.ntmps249
  go_wp2_with fail
  refine bodyPost_ret (v := .tuple #[.agg #[.bool false, .int .i64 2, .bool true], .bool true]) (by simp [results, Tryz.results249, go_sem]) rfl ⟨rfl, ?_⟩
  first | exact Below.refl _ _ | exact (Below.refl _ _).alloc (Nat.le_refl _) _ | exact ((Below.refl _ _).alloc (Nat.le_refl _) _).alloc (by simp) _

set_option maxHeartbeats 1000000 in
theorem fields_no (w : World) (k : Int) (h : ¬ (1 ≤ k ∧ k ≤ 15)) : Calls Tryz.prog 249 #[.int .u8 k] w fun e w' => e = .returned (.tuple #[.agg #[.bool false, .int .i64 0, .bool false], .bool false]) ∧ Below w.heap.size w w' := by
  have k1 : (k == 1) = false := by simp; omega
  have k2 : (k == 2) = false := by simp; omega
  have k3 : (k == 3) = false := by simp; omega
  have k4 : (k == 4) = false := by simp; omega
  have k5 : (k == 5) = false := by simp; omega
  have k6 : (k == 6) = false := by simp; omega
  have k7 : (k == 7) = false := by simp; omega
  have k8 : (k == 8) = false := by simp; omega
  have k9 : (k == 9) = false := by simp; omega
  have k10 : (k == 10) = false := by simp; omega
  have k11 : (k == 11) = false := by simp; omega
  have k12 : (k == 12) = false := by simp; omega
  have k13 : (k == 13) = false := by simp; omega
  have k14 : (k == 14) = false := by simp; omega
  have k15 : (k == 15) = false := by simp; omega
  clear h
  go_enter Tryz.func249, Tryz.ntmps249
  go_wp2_with fail
  refine bodyPost_ret (v := .tuple #[.agg #[.bool false, .int .i64 0, .bool false], .bool false]) (by simp [results, Tryz.results249, go_sem]) rfl ⟨rfl, ?_⟩
  first | exact Below.refl _ _ | exact (Below.refl _ _).alloc (Nat.le_refl _) _ | exact ((Below.refl _ _).alloc (Nat.le_refl _) _).alloc (by simp) _

theorem fields_any (w : World) (k : Int) : Calls Tryz.prog 249 #[.int .u8 k] w fun e w' => e = .returned (fieldsV (formS k)) ∧ Below w.heap.size w w' := by
  cases h : formS k with
  | none => exact fields_no w k (kinds_none h)
  | some f =>
    have hk := kinds (k := k) (by rw [h]; simp)
    rcases hk with rfl | rfl | rfl | rfl | rfl | rfl | rfl | rfl | rfl | rfl | rfl | rfl | rfl | rfl | rfl
    · simp [formS] at h; subst h; exact fields_1 w
    · simp [formS] at h; subst h; exact fields_2 w
    · simp [formS] at h; subst h; exact fields_3 w
    · simp [formS] at h; subst h; exact fields_4 w
    · simp [formS] at h; subst h; exact fields_5 w
    · simp [formS] at h; subst h; exact fields_6 w
    · simp [formS] at h; subst h; exact fields_7 w
    · simp [formS] at h; subst h; exact fields_8 w
    · simp [formS] at h; subst h; exact fields_9 w
    · simp [formS] at h; subst h; exact fields_10 w
    · simp [formS] at h; subst h; exact fields_11 w
    · simp [formS] at h; subst h; exact fields_12 w
    · simp [formS] at h; subst h; exact fields_13 w
    · simp [formS] at h; subst h; exact fields_14 w
    · simp [formS] at h; subst h; exact fields_15 w

set_option maxHeartbeats 1000000 in
theorem number_any (w : World) (k n : Int) : Calls Tryz.prog 250 #[.int .u8 k, .int .i64 n] w fun e w' => e = .returned (.bool (numS k n)) ∧ Below w.heap.size w w' := by
  by_cases k6 : k = 6
  · subst k6
    by_cases h1 : 0 ≤ n
    · by_cases h2 : n ≤ 262144
      · go_enter Tryz.func250, Tryz.ntmps250
        go_wp2_with fail
        go_ret
        exact ⟨by simp [numS, h1, h2], Below.refl _ _⟩
      · go_enter Tryz.func250, Tryz.ntmps250
        go_wp2_with fail
        go_ret
        exact ⟨by simp [numS]; omega, Below.refl _ _⟩
    · have h1' : n < 0 := by omega
      go_enter Tryz.func250, Tryz.ntmps250
      go_wp2_with fail
      go_ret
      exact ⟨by simp [numS]; omega, Below.refl _ _⟩
  by_cases k7 : k = 7
  · subst k7
    by_cases h1 : 0 ≤ n
    · by_cases h2 : n ≤ 262144
      · go_enter Tryz.func250, Tryz.ntmps250
        go_wp2_with fail
        go_ret
        exact ⟨by simp [numS, h1, h2], Below.refl _ _⟩
      · go_enter Tryz.func250, Tryz.ntmps250
        go_wp2_with fail
        go_ret
        exact ⟨by simp [numS]; omega, Below.refl _ _⟩
    · have h1' : n < 0 := by omega
      go_enter Tryz.func250, Tryz.ntmps250
      go_wp2_with fail
      go_ret
      exact ⟨by simp [numS]; omega, Below.refl _ _⟩
  by_cases k12 : k = 12
  · subst k12
    by_cases h1 : 1 ≤ n
    · by_cases h2 : n ≤ 8
      · go_enter Tryz.func250, Tryz.ntmps250
        go_wp2_with fail
        go_ret
        exact ⟨by simp [numS, h1, h2], Below.refl _ _⟩
      · go_enter Tryz.func250, Tryz.ntmps250
        go_wp2_with fail
        go_ret
        exact ⟨by simp [numS]; omega, Below.refl _ _⟩
    · have h1' : n < 1 := by omega
      go_enter Tryz.func250, Tryz.ntmps250
      go_wp2_with fail
      go_ret
      exact ⟨by simp [numS]; omega, Below.refl _ _⟩
  by_cases k13 : k = 13
  · subst k13
    by_cases h1 : 2 ≤ n
    · by_cases h2 : n ≤ 8
      · go_enter Tryz.func250, Tryz.ntmps250
        go_wp2_with fail
        go_ret
        exact ⟨by simp [numS, h1, h2], Below.refl _ _⟩
      · go_enter Tryz.func250, Tryz.ntmps250
        go_wp2_with fail
        go_ret
        exact ⟨by simp [numS]; omega, Below.refl _ _⟩
    · have h1' : n < 2 := by omega
      go_enter Tryz.func250, Tryz.ntmps250
      go_wp2_with fail
      go_ret
      exact ⟨by simp [numS]; omega, Below.refl _ _⟩
  have b6 : (k == 6) = false := by simp [k6]
  have b7 : (k == 7) = false := by simp [k7]
  have b12 : (k == 12) = false := by simp [k12]
  have b13 : (k == 13) = false := by simp [k13]
  go_enter Tryz.func250, Tryz.ntmps250
  go_wp2_with fail
  go_ret
  exact ⟨by simp [numS, k6, k7, k12, k13], Below.refl _ _⟩
set_option maxHeartbeats 8000000 in
theorem rcheck_any (w : World) (o : OpD) (hw : wfOp o) : Calls Tryz.prog 168 #[.agg (encOp o).toArray] w fun e w' => e = .returned (codeV (checkS o)) ∧ Below w.heap.size w w' := by
  obtain ⟨kind, cal, a, b, c, n⟩ := o
  obtain ⟨-, ⟨hc0, -⟩, ⟨ha0, -⟩, ⟨hb0, -⟩, ⟨hcc0, -⟩, hn0, hn1⟩ := hw
  simp only at hc0 ha0 hb0 hcc0 hn0 hn1
  unfold encOp
  go_enter Tryz.func168, Tryz.ntmps168
  go_wp2_with fail
  refine (fields_any _ _).mono ?_
  rintro e w1 ⟨rfl, hb1⟩
  have hblk := blk hb1 (block_new w _)
  have y0 : ∀ x, (w1.alloc x).cell? ⟨w.heap.size, 0, none⟩ = some (.int .u8 kind) := fun x => cell_of_block (block_alloc hblk) rfl
  have z0 : ∀ x y, ((w1.alloc x).alloc y).cell? ⟨w.heap.size, 0, none⟩ = some (.int .u8 kind) := fun x y => cell_of_block (block_alloc (block_alloc hblk)) rfl
  have y1 : ∀ x, (w1.alloc x).cell? ⟨w.heap.size, 1, none⟩ = some (.int .u8 cal) := fun x => cell_of_block (block_alloc hblk) rfl
  have z1 : ∀ x y, ((w1.alloc x).alloc y).cell? ⟨w.heap.size, 1, none⟩ = some (.int .u8 cal) := fun x y => cell_of_block (block_alloc (block_alloc hblk)) rfl
  have y2 : ∀ x, (w1.alloc x).cell? ⟨w.heap.size, 2, none⟩ = some (.int .u8 a) := fun x => cell_of_block (block_alloc hblk) rfl
  have z2 : ∀ x y, ((w1.alloc x).alloc y).cell? ⟨w.heap.size, 2, none⟩ = some (.int .u8 a) := fun x y => cell_of_block (block_alloc (block_alloc hblk)) rfl
  have y3 : ∀ x, (w1.alloc x).cell? ⟨w.heap.size, 3, none⟩ = some (.int .u8 b) := fun x => cell_of_block (block_alloc hblk) rfl
  have z3 : ∀ x y, ((w1.alloc x).alloc y).cell? ⟨w.heap.size, 3, none⟩ = some (.int .u8 b) := fun x y => cell_of_block (block_alloc (block_alloc hblk)) rfl
  have y4 : ∀ x, (w1.alloc x).cell? ⟨w.heap.size, 4, none⟩ = some (.int .u8 c) := fun x => cell_of_block (block_alloc hblk) rfl
  have z4 : ∀ x y, ((w1.alloc x).alloc y).cell? ⟨w.heap.size, 4, none⟩ = some (.int .u8 c) := fun x y => cell_of_block (block_alloc (block_alloc hblk)) rfl
  have y5 : ∀ x, (w1.alloc x).cell? ⟨w.heap.size, 5, none⟩ = some (.int .i64 n) := fun x => cell_of_block (block_alloc hblk) rfl
  have z5 : ∀ x y, ((w1.alloc x).alloc y).cell? ⟨w.heap.size, 5, none⟩ = some (.int .i64 n) := fun x y => cell_of_block (block_alloc (block_alloc hblk)) rfl
  have HB1 := hidI (bnextA (Below.refl _ _) hb1)
  clear hb1 hblk
  cases hf : formS kind with
  | none =>
    unfold fieldsV
    have HF := hidI hf
    clear hf
    go_wp2_with fail
    go_ret
    exact ⟨by simp [checkS, HF.out, codeV], HB1.out.alloc HB1.out.size _⟩
  | some f =>
    have hfr := form_regs hf
    obtain ⟨fc, fr, fn, fl, fM⟩ := f
    have HF := hidI hf
    clear hf
    simp only at hfr
    have HB2 := hidI (fun x y : Obj => (HB1.out.alloc HB1.out.size x).alloc (HB1.out.alloc HB1.out.size x).size y)
    have f0 : ∀ y, ((w1.alloc (.cells #[.bool fc, .int .i64 fr, .bool fn] 386)).alloc y).cell? ⟨w1.heap.size, 0, none⟩ = some (.bool fc) := fun y => cell_of_block (block_alloc (block_new _ _)) rfl
    have f1 : ∀ y, ((w1.alloc (.cells #[.bool fc, .int .i64 fr, .bool fn] 386)).alloc y).cell? ⟨w1.heap.size, 1, none⟩ = some (.int .i64 fr) := fun y => cell_of_block (block_alloc (block_new _ _)) rfl
    have f2 : ∀ y, ((w1.alloc (.cells #[.bool fc, .int .i64 fr, .bool fn] 386)).alloc y).cell? ⟨w1.heap.size, 2, none⟩ = some (.bool fn) := fun y => cell_of_block (block_alloc (block_new _ _)) rfl
    unfold fieldsV encFd
    rcases (by omega : fr = 0 ∨ fr = 1 ∨ fr = 2 ∨ fr = 3) with rfl | rfl | rfl | rfl
    · have g3 : ((w1.alloc (.cells #[.bool fc, .int .i64 0, .bool fn] 386)).alloc (.cells #[.int .u8 a, .int .u8 b, .int .u8 c] 5)).cell? ⟨w1.heap.size + 1, 0, none⟩ = some (.int .u8 a) := cell_of_block (block_new2 _ _ _) rfl
      have g4 : ((w1.alloc (.cells #[.bool fc, .int .i64 0, .bool fn] 386)).alloc (.cells #[.int .u8 a, .int .u8 b, .int .u8 c] 5)).cell? ⟨w1.heap.size + 1, 1, none⟩ = some (.int .u8 b) := cell_of_block (block_new2 _ _ _) rfl
      have g5 : ((w1.alloc (.cells #[.bool fc, .int .i64 0, .bool fn] 386)).alloc (.cells #[.int .u8 a, .int .u8 b, .int .u8 c] 5)).cell? ⟨w1.heap.size + 1, 2, none⟩ = some (.int .u8 c) := cell_of_block (block_new2 _ _ _) rfl
      go_wp2_with fail
      go_loopw [6] (fun i wr => wr = (w1.alloc (.cells #[.bool fc, .int .i64 0, .bool fn] 386)).alloc (.cells #[.int .u8 a, .int .u8 b, .int .u8 c] 5) ∧ (i = .int .i64 0 ∨ i = .int .i64 1 ∧ okReg 0 0 a = true ∨ i = .int .i64 2 ∧ okReg 0 0 a = true ∧ okReg 0 1 b = true ∨ i = .int .i64 3 ∧ okReg 0 0 a = true ∧ okReg 0 1 b = true ∧ okReg 0 2 c = true)) (fun i _ => (3 - intOf i).toNat)
      case atStart => exact ⟨rfl, .inl rfl⟩
      case round =>
        obtain ⟨rfl, rfl | ⟨rfl, g0⟩ | ⟨rfl, g0, g1⟩ | ⟨rfl, g0, g1, g2⟩⟩ := hrel
        · skip
          by_cases h : a = 0
          · have H : okReg 0 0 a = true := by simp [okReg, h]
            have h' : (a != 0) = false := by simp [h]
            have h'' : (a == 0) = true := by simp [h]
            clear h
            go_wp2_with fail
            exact ⟨⟨trivial, .inr (.inl ⟨rfl, H⟩)⟩, by simp [intOf]⟩
          · have HN : okReg 0 0 a = false := by simp [okReg, h]
            have h' : (a != 0) = true := by simp [h]
            have h'' : (a == 0) = false := by simp [h]
            clear h
            go_wp2_with fail
            go_ret
            exact ⟨by simp [checkS, HF.out, codeV, HN], HB2.out _ _⟩
        · skip
          have G0 := hidI g0
          clear g0
          by_cases h : b = 0
          · have H : okReg 0 1 b = true := by simp [okReg, h]
            have h' : (b != 0) = false := by simp [h]
            have h'' : (b == 0) = true := by simp [h]
            clear h
            go_wp2_with fail
            exact ⟨⟨trivial, .inr (.inr (.inl ⟨rfl, G0.out, H⟩))⟩, by simp [intOf]⟩
          · have HN : okReg 0 1 b = false := by simp [okReg, h]
            have h' : (b != 0) = true := by simp [h]
            have h'' : (b == 0) = false := by simp [h]
            clear h
            go_wp2_with fail
            go_ret
            exact ⟨by simp [checkS, HF.out, codeV, HN], HB2.out _ _⟩
        · skip
          have G0 := hidI g0
          have G1 := hidI g1
          clear g0 g1
          by_cases h : c = 0
          · have H : okReg 0 2 c = true := by simp [okReg, h]
            have h' : (c != 0) = false := by simp [h]
            have h'' : (c == 0) = true := by simp [h]
            clear h
            go_wp2_with fail
            exact ⟨⟨trivial, .inr (.inr (.inr (⟨rfl, G0.out, G1.out, H⟩)))⟩, by simp [intOf]⟩
          · have HN : okReg 0 2 c = false := by simp [okReg, h]
            have h' : (c != 0) = true := by simp [h]
            have h'' : (c == 0) = false := by simp [h]
            clear h
            go_wp2_with fail
            go_ret
            exact ⟨by simp [checkS, HF.out, codeV, HN], HB2.out _ _⟩
        · skip
          have G0 := hidI g0
          have G1 := hidI g1
          have G2 := hidI g2
          clear g0 g1 g2
          cases fc with
          | true =>
            by_cases hcal : cal < 1
            · obtain rfl : cal = 0 := by omega
              go_wp2_with fail
              go_ret
              exact ⟨by simp [checkS, HF.out, codeV], HB2.out _ _⟩
            have hcal1 : ¬ cal = 0 := by omega
            by_cases h14 : cal > 14
            · go_wp2_with fail
              go_ret
              exact ⟨by simp [checkS, HF.out, codeV]; omega, HB2.out _ _⟩
            have h15 : cal ≤ 14 := by omega
            cases fn with
            | false =>
              by_cases h1 : n = 0
              · subst h1
                go_wp2_with fail
                go_ret
                exact ⟨by simp [checkS, HF.out, codeV, G0.out, G1.out, G2.out, okNum, hcal1, h15], HB2.out _ _⟩
              · have h2 : (n == 0) = false := by simp [h1]
                have h3 : (n != 0) = true := by simp [h1]
                go_wp2_with fail
                go_ret
                exact ⟨by simp [checkS, HF.out, codeV, okNum, h1], HB2.out _ _⟩
            | true =>
              have ek := hidI (num_ok HF.out rfl hn0 hn1)
              go_wp2_with fail
              refine (number_any _ _ _).mono ?_
              rintro e w2 ⟨rfl, hb2⟩
              have HB3 := hidI ((HB2.out _ _).trans (hb2.mono (HB2.out _ _).size))
              clear hb2
              cases hnum : numS kind n with
              | true =>
                have EQ := hidI (ek.out.symm.trans hnum)
                clear hnum
                go_wp2_with fail
                go_ret
                exact ⟨by simp [checkS, HF.out, codeV, G0.out, G1.out, G2.out, EQ.out, hcal1, h15], HB3.out⟩
              | false =>
                have EQ := hidI (ek.out.symm.trans hnum)
                clear hnum
                go_wp2_with fail
                go_ret
                exact ⟨by simp [checkS, HF.out, codeV, EQ.out], HB3.out⟩
          | false =>
            by_cases hcal : cal = 0
            · subst hcal
              cases fn with
              | false =>
                by_cases h1 : n = 0
                · subst h1
                  go_wp2_with fail
                  go_ret
                  exact ⟨by simp [checkS, HF.out, codeV, G0.out, G1.out, G2.out, okNum, Bool.and_true], HB2.out _ _⟩
                · have h2 : (n == 0) = false := by simp [h1]
                  have h3 : (n != 0) = true := by simp [h1]
                  go_wp2_with fail
                  go_ret
                  exact ⟨by simp [checkS, HF.out, codeV, okNum, h1], HB2.out _ _⟩
              | true =>
                have ek := hidI (num_ok HF.out rfl hn0 hn1)
                go_wp2_with fail
                refine (number_any _ _ _).mono ?_
                rintro e w2 ⟨rfl, hb2⟩
                have HB3 := hidI ((HB2.out _ _).trans (hb2.mono (HB2.out _ _).size))
                clear hb2
                cases hnum : numS kind n with
                | true =>
                  have EQ := hidI (ek.out.symm.trans hnum)
                  clear hnum
                  go_wp2_with fail
                  go_ret
                  exact ⟨by simp [checkS, HF.out, codeV, G0.out, G1.out, G2.out, EQ.out, Bool.and_true], HB3.out⟩
                | false =>
                  have EQ := hidI (ek.out.symm.trans hnum)
                  clear hnum
                  go_wp2_with fail
                  go_ret
                  exact ⟨by simp [checkS, HF.out, codeV, EQ.out], HB3.out⟩
            · have e1 : (cal == 0) = false := by simp [hcal]
              have e2 : (cal != 0) = true := by simp [hcal]
              go_wp2_with fail
              go_ret
              exact ⟨by simp [checkS, HF.out, codeV, hcal], HB2.out _ _⟩
    · have g3 : ((w1.alloc (.cells #[.bool fc, .int .i64 1, .bool fn] 386)).alloc (.cells #[.int .u8 a, .int .u8 b, .int .u8 c] 5)).cell? ⟨w1.heap.size + 1, 0, none⟩ = some (.int .u8 a) := cell_of_block (block_new2 _ _ _) rfl
      have g4 : ((w1.alloc (.cells #[.bool fc, .int .i64 1, .bool fn] 386)).alloc (.cells #[.int .u8 a, .int .u8 b, .int .u8 c] 5)).cell? ⟨w1.heap.size + 1, 1, none⟩ = some (.int .u8 b) := cell_of_block (block_new2 _ _ _) rfl
      have g5 : ((w1.alloc (.cells #[.bool fc, .int .i64 1, .bool fn] 386)).alloc (.cells #[.int .u8 a, .int .u8 b, .int .u8 c] 5)).cell? ⟨w1.heap.size + 1, 2, none⟩ = some (.int .u8 c) := cell_of_block (block_new2 _ _ _) rfl
      go_wp2_with fail
      go_loopw [6] (fun i wr => wr = (w1.alloc (.cells #[.bool fc, .int .i64 1, .bool fn] 386)).alloc (.cells #[.int .u8 a, .int .u8 b, .int .u8 c] 5) ∧ (i = .int .i64 0 ∨ i = .int .i64 1 ∧ okReg 1 0 a = true ∨ i = .int .i64 2 ∧ okReg 1 0 a = true ∧ okReg 1 1 b = true ∨ i = .int .i64 3 ∧ okReg 1 0 a = true ∧ okReg 1 1 b = true ∧ okReg 1 2 c = true)) (fun i _ => (3 - intOf i).toNat)
      case atStart => exact ⟨rfl, .inl rfl⟩
      case round =>
        obtain ⟨rfl, rfl | ⟨rfl, g0⟩ | ⟨rfl, g0, g1⟩ | ⟨rfl, g0, g1, g2⟩⟩ := hrel
        · skip
          by_cases h : a < 8
          · have h' : ¬ a ≥ 8 := by omega
            have H : okReg 1 0 a = true := by simp [okReg, h]
            clear h
            go_wp2_with fail
            exact ⟨⟨trivial, .inr (.inl ⟨rfl, H⟩)⟩, by simp [intOf]⟩
          · have h' : a ≥ 8 := by omega
            have HN : okReg 1 0 a = false := by simp [okReg]; omega
            clear h
            go_wp2_with fail
            go_ret
            exact ⟨by simp [checkS, HF.out, codeV, HN], HB2.out _ _⟩
        · skip
          have G0 := hidI g0
          clear g0
          by_cases h : b = 0
          · have H : okReg 1 1 b = true := by simp [okReg, h]
            have h' : (b != 0) = false := by simp [h]
            have h'' : (b == 0) = true := by simp [h]
            clear h
            go_wp2_with fail
            exact ⟨⟨trivial, .inr (.inr (.inl ⟨rfl, G0.out, H⟩))⟩, by simp [intOf]⟩
          · have HN : okReg 1 1 b = false := by simp [okReg, h]
            have h' : (b != 0) = true := by simp [h]
            have h'' : (b == 0) = false := by simp [h]
            clear h
            go_wp2_with fail
            go_ret
            exact ⟨by simp [checkS, HF.out, codeV, HN], HB2.out _ _⟩
        · skip
          have G0 := hidI g0
          have G1 := hidI g1
          clear g0 g1
          by_cases h : c = 0
          · have H : okReg 1 2 c = true := by simp [okReg, h]
            have h' : (c != 0) = false := by simp [h]
            have h'' : (c == 0) = true := by simp [h]
            clear h
            go_wp2_with fail
            exact ⟨⟨trivial, .inr (.inr (.inr (⟨rfl, G0.out, G1.out, H⟩)))⟩, by simp [intOf]⟩
          · have HN : okReg 1 2 c = false := by simp [okReg, h]
            have h' : (c != 0) = true := by simp [h]
            have h'' : (c == 0) = false := by simp [h]
            clear h
            go_wp2_with fail
            go_ret
            exact ⟨by simp [checkS, HF.out, codeV, HN], HB2.out _ _⟩
        · skip
          have G0 := hidI g0
          have G1 := hidI g1
          have G2 := hidI g2
          clear g0 g1 g2
          cases fc with
          | true =>
            by_cases hcal : cal < 1
            · obtain rfl : cal = 0 := by omega
              go_wp2_with fail
              go_ret
              exact ⟨by simp [checkS, HF.out, codeV], HB2.out _ _⟩
            have hcal1 : ¬ cal = 0 := by omega
            by_cases h14 : cal > 14
            · go_wp2_with fail
              go_ret
              exact ⟨by simp [checkS, HF.out, codeV]; omega, HB2.out _ _⟩
            have h15 : cal ≤ 14 := by omega
            cases fn with
            | false =>
              by_cases h1 : n = 0
              · subst h1
                go_wp2_with fail
                go_ret
                exact ⟨by simp [checkS, HF.out, codeV, G0.out, G1.out, G2.out, okNum, hcal1, h15], HB2.out _ _⟩
              · have h2 : (n == 0) = false := by simp [h1]
                have h3 : (n != 0) = true := by simp [h1]
                go_wp2_with fail
                go_ret
                exact ⟨by simp [checkS, HF.out, codeV, okNum, h1], HB2.out _ _⟩
            | true =>
              have ek := hidI (num_ok HF.out rfl hn0 hn1)
              go_wp2_with fail
              refine (number_any _ _ _).mono ?_
              rintro e w2 ⟨rfl, hb2⟩
              have HB3 := hidI ((HB2.out _ _).trans (hb2.mono (HB2.out _ _).size))
              clear hb2
              cases hnum : numS kind n with
              | true =>
                have EQ := hidI (ek.out.symm.trans hnum)
                clear hnum
                go_wp2_with fail
                go_ret
                exact ⟨by simp [checkS, HF.out, codeV, G0.out, G1.out, G2.out, EQ.out, hcal1, h15], HB3.out⟩
              | false =>
                have EQ := hidI (ek.out.symm.trans hnum)
                clear hnum
                go_wp2_with fail
                go_ret
                exact ⟨by simp [checkS, HF.out, codeV, EQ.out], HB3.out⟩
          | false =>
            by_cases hcal : cal = 0
            · subst hcal
              cases fn with
              | false =>
                by_cases h1 : n = 0
                · subst h1
                  go_wp2_with fail
                  go_ret
                  exact ⟨by simp [checkS, HF.out, codeV, G0.out, G1.out, G2.out, okNum, Bool.and_true], HB2.out _ _⟩
                · have h2 : (n == 0) = false := by simp [h1]
                  have h3 : (n != 0) = true := by simp [h1]
                  go_wp2_with fail
                  go_ret
                  exact ⟨by simp [checkS, HF.out, codeV, okNum, h1], HB2.out _ _⟩
              | true =>
                have ek := hidI (num_ok HF.out rfl hn0 hn1)
                go_wp2_with fail
                refine (number_any _ _ _).mono ?_
                rintro e w2 ⟨rfl, hb2⟩
                have HB3 := hidI ((HB2.out _ _).trans (hb2.mono (HB2.out _ _).size))
                clear hb2
                cases hnum : numS kind n with
                | true =>
                  have EQ := hidI (ek.out.symm.trans hnum)
                  clear hnum
                  go_wp2_with fail
                  go_ret
                  exact ⟨by simp [checkS, HF.out, codeV, G0.out, G1.out, G2.out, EQ.out, Bool.and_true], HB3.out⟩
                | false =>
                  have EQ := hidI (ek.out.symm.trans hnum)
                  clear hnum
                  go_wp2_with fail
                  go_ret
                  exact ⟨by simp [checkS, HF.out, codeV, EQ.out], HB3.out⟩
            · have e1 : (cal == 0) = false := by simp [hcal]
              have e2 : (cal != 0) = true := by simp [hcal]
              go_wp2_with fail
              go_ret
              exact ⟨by simp [checkS, HF.out, codeV, hcal], HB2.out _ _⟩
    · have g3 : ((w1.alloc (.cells #[.bool fc, .int .i64 2, .bool fn] 386)).alloc (.cells #[.int .u8 a, .int .u8 b, .int .u8 c] 5)).cell? ⟨w1.heap.size + 1, 0, none⟩ = some (.int .u8 a) := cell_of_block (block_new2 _ _ _) rfl
      have g4 : ((w1.alloc (.cells #[.bool fc, .int .i64 2, .bool fn] 386)).alloc (.cells #[.int .u8 a, .int .u8 b, .int .u8 c] 5)).cell? ⟨w1.heap.size + 1, 1, none⟩ = some (.int .u8 b) := cell_of_block (block_new2 _ _ _) rfl
      have g5 : ((w1.alloc (.cells #[.bool fc, .int .i64 2, .bool fn] 386)).alloc (.cells #[.int .u8 a, .int .u8 b, .int .u8 c] 5)).cell? ⟨w1.heap.size + 1, 2, none⟩ = some (.int .u8 c) := cell_of_block (block_new2 _ _ _) rfl
      go_wp2_with fail
      go_loopw [6] (fun i wr => wr = (w1.alloc (.cells #[.bool fc, .int .i64 2, .bool fn] 386)).alloc (.cells #[.int .u8 a, .int .u8 b, .int .u8 c] 5) ∧ (i = .int .i64 0 ∨ i = .int .i64 1 ∧ okReg 2 0 a = true ∨ i = .int .i64 2 ∧ okReg 2 0 a = true ∧ okReg 2 1 b = true ∨ i = .int .i64 3 ∧ okReg 2 0 a = true ∧ okReg 2 1 b = true ∧ okReg 2 2 c = true)) (fun i _ => (3 - intOf i).toNat)
      case atStart => exact ⟨rfl, .inl rfl⟩
      case round =>
        obtain ⟨rfl, rfl | ⟨rfl, g0⟩ | ⟨rfl, g0, g1⟩ | ⟨rfl, g0, g1, g2⟩⟩ := hrel
        · skip
          by_cases h : a < 8
          · have h' : ¬ a ≥ 8 := by omega
            have H : okReg 2 0 a = true := by simp [okReg, h]
            clear h
            go_wp2_with fail
            exact ⟨⟨trivial, .inr (.inl ⟨rfl, H⟩)⟩, by simp [intOf]⟩
          · have h' : a ≥ 8 := by omega
            have HN : okReg 2 0 a = false := by simp [okReg]; omega
            clear h
            go_wp2_with fail
            go_ret
            exact ⟨by simp [checkS, HF.out, codeV, HN], HB2.out _ _⟩
        · skip
          have G0 := hidI g0
          clear g0
          by_cases h : b < 8
          · have h' : ¬ b ≥ 8 := by omega
            have H : okReg 2 1 b = true := by simp [okReg, h]
            clear h
            go_wp2_with fail
            exact ⟨⟨trivial, .inr (.inr (.inl ⟨rfl, G0.out, H⟩))⟩, by simp [intOf]⟩
          · have h' : b ≥ 8 := by omega
            have HN : okReg 2 1 b = false := by simp [okReg]; omega
            clear h
            go_wp2_with fail
            go_ret
            exact ⟨by simp [checkS, HF.out, codeV, HN], HB2.out _ _⟩
        · skip
          have G0 := hidI g0
          have G1 := hidI g1
          clear g0 g1
          by_cases h : c = 0
          · have H : okReg 2 2 c = true := by simp [okReg, h]
            have h' : (c != 0) = false := by simp [h]
            have h'' : (c == 0) = true := by simp [h]
            clear h
            go_wp2_with fail
            exact ⟨⟨trivial, .inr (.inr (.inr (⟨rfl, G0.out, G1.out, H⟩)))⟩, by simp [intOf]⟩
          · have HN : okReg 2 2 c = false := by simp [okReg, h]
            have h' : (c != 0) = true := by simp [h]
            have h'' : (c == 0) = false := by simp [h]
            clear h
            go_wp2_with fail
            go_ret
            exact ⟨by simp [checkS, HF.out, codeV, HN], HB2.out _ _⟩
        · skip
          have G0 := hidI g0
          have G1 := hidI g1
          have G2 := hidI g2
          clear g0 g1 g2
          cases fc with
          | true =>
            by_cases hcal : cal < 1
            · obtain rfl : cal = 0 := by omega
              go_wp2_with fail
              go_ret
              exact ⟨by simp [checkS, HF.out, codeV], HB2.out _ _⟩
            have hcal1 : ¬ cal = 0 := by omega
            by_cases h14 : cal > 14
            · go_wp2_with fail
              go_ret
              exact ⟨by simp [checkS, HF.out, codeV]; omega, HB2.out _ _⟩
            have h15 : cal ≤ 14 := by omega
            cases fn with
            | false =>
              by_cases h1 : n = 0
              · subst h1
                go_wp2_with fail
                go_ret
                exact ⟨by simp [checkS, HF.out, codeV, G0.out, G1.out, G2.out, okNum, hcal1, h15], HB2.out _ _⟩
              · have h2 : (n == 0) = false := by simp [h1]
                have h3 : (n != 0) = true := by simp [h1]
                go_wp2_with fail
                go_ret
                exact ⟨by simp [checkS, HF.out, codeV, okNum, h1], HB2.out _ _⟩
            | true =>
              have ek := hidI (num_ok HF.out rfl hn0 hn1)
              go_wp2_with fail
              refine (number_any _ _ _).mono ?_
              rintro e w2 ⟨rfl, hb2⟩
              have HB3 := hidI ((HB2.out _ _).trans (hb2.mono (HB2.out _ _).size))
              clear hb2
              cases hnum : numS kind n with
              | true =>
                have EQ := hidI (ek.out.symm.trans hnum)
                clear hnum
                go_wp2_with fail
                go_ret
                exact ⟨by simp [checkS, HF.out, codeV, G0.out, G1.out, G2.out, EQ.out, hcal1, h15], HB3.out⟩
              | false =>
                have EQ := hidI (ek.out.symm.trans hnum)
                clear hnum
                go_wp2_with fail
                go_ret
                exact ⟨by simp [checkS, HF.out, codeV, EQ.out], HB3.out⟩
          | false =>
            by_cases hcal : cal = 0
            · subst hcal
              cases fn with
              | false =>
                by_cases h1 : n = 0
                · subst h1
                  go_wp2_with fail
                  go_ret
                  exact ⟨by simp [checkS, HF.out, codeV, G0.out, G1.out, G2.out, okNum, Bool.and_true], HB2.out _ _⟩
                · have h2 : (n == 0) = false := by simp [h1]
                  have h3 : (n != 0) = true := by simp [h1]
                  go_wp2_with fail
                  go_ret
                  exact ⟨by simp [checkS, HF.out, codeV, okNum, h1], HB2.out _ _⟩
              | true =>
                have ek := hidI (num_ok HF.out rfl hn0 hn1)
                go_wp2_with fail
                refine (number_any _ _ _).mono ?_
                rintro e w2 ⟨rfl, hb2⟩
                have HB3 := hidI ((HB2.out _ _).trans (hb2.mono (HB2.out _ _).size))
                clear hb2
                cases hnum : numS kind n with
                | true =>
                  have EQ := hidI (ek.out.symm.trans hnum)
                  clear hnum
                  go_wp2_with fail
                  go_ret
                  exact ⟨by simp [checkS, HF.out, codeV, G0.out, G1.out, G2.out, EQ.out, Bool.and_true], HB3.out⟩
                | false =>
                  have EQ := hidI (ek.out.symm.trans hnum)
                  clear hnum
                  go_wp2_with fail
                  go_ret
                  exact ⟨by simp [checkS, HF.out, codeV, EQ.out], HB3.out⟩
            · have e1 : (cal == 0) = false := by simp [hcal]
              have e2 : (cal != 0) = true := by simp [hcal]
              go_wp2_with fail
              go_ret
              exact ⟨by simp [checkS, HF.out, codeV, hcal], HB2.out _ _⟩
    · have g3 : ((w1.alloc (.cells #[.bool fc, .int .i64 3, .bool fn] 386)).alloc (.cells #[.int .u8 a, .int .u8 b, .int .u8 c] 5)).cell? ⟨w1.heap.size + 1, 0, none⟩ = some (.int .u8 a) := cell_of_block (block_new2 _ _ _) rfl
      have g4 : ((w1.alloc (.cells #[.bool fc, .int .i64 3, .bool fn] 386)).alloc (.cells #[.int .u8 a, .int .u8 b, .int .u8 c] 5)).cell? ⟨w1.heap.size + 1, 1, none⟩ = some (.int .u8 b) := cell_of_block (block_new2 _ _ _) rfl
      have g5 : ((w1.alloc (.cells #[.bool fc, .int .i64 3, .bool fn] 386)).alloc (.cells #[.int .u8 a, .int .u8 b, .int .u8 c] 5)).cell? ⟨w1.heap.size + 1, 2, none⟩ = some (.int .u8 c) := cell_of_block (block_new2 _ _ _) rfl
      go_wp2_with fail
      go_loopw [6] (fun i wr => wr = (w1.alloc (.cells #[.bool fc, .int .i64 3, .bool fn] 386)).alloc (.cells #[.int .u8 a, .int .u8 b, .int .u8 c] 5) ∧ (i = .int .i64 0 ∨ i = .int .i64 1 ∧ okReg 3 0 a = true ∨ i = .int .i64 2 ∧ okReg 3 0 a = true ∧ okReg 3 1 b = true ∨ i = .int .i64 3 ∧ okReg 3 0 a = true ∧ okReg 3 1 b = true ∧ okReg 3 2 c = true)) (fun i _ => (3 - intOf i).toNat)
      case atStart => exact ⟨rfl, .inl rfl⟩
      case round =>
        obtain ⟨rfl, rfl | ⟨rfl, g0⟩ | ⟨rfl, g0, g1⟩ | ⟨rfl, g0, g1, g2⟩⟩ := hrel
        · skip
          by_cases h : a < 8
          · have h' : ¬ a ≥ 8 := by omega
            have H : okReg 3 0 a = true := by simp [okReg, h]
            clear h
            go_wp2_with fail
            exact ⟨⟨trivial, .inr (.inl ⟨rfl, H⟩)⟩, by simp [intOf]⟩
          · have h' : a ≥ 8 := by omega
            have HN : okReg 3 0 a = false := by simp [okReg]; omega
            clear h
            go_wp2_with fail
            go_ret
            exact ⟨by simp [checkS, HF.out, codeV, HN], HB2.out _ _⟩
        · skip
          have G0 := hidI g0
          clear g0
          by_cases h : b < 8
          · have h' : ¬ b ≥ 8 := by omega
            have H : okReg 3 1 b = true := by simp [okReg, h]
            clear h
            go_wp2_with fail
            exact ⟨⟨trivial, .inr (.inr (.inl ⟨rfl, G0.out, H⟩))⟩, by simp [intOf]⟩
          · have h' : b ≥ 8 := by omega
            have HN : okReg 3 1 b = false := by simp [okReg]; omega
            clear h
            go_wp2_with fail
            go_ret
            exact ⟨by simp [checkS, HF.out, codeV, HN], HB2.out _ _⟩
        · skip
          have G0 := hidI g0
          have G1 := hidI g1
          clear g0 g1
          by_cases h : c < 8
          · have h' : ¬ c ≥ 8 := by omega
            have H : okReg 3 2 c = true := by simp [okReg, h]
            clear h
            go_wp2_with fail
            exact ⟨⟨trivial, .inr (.inr (.inr (⟨rfl, G0.out, G1.out, H⟩)))⟩, by simp [intOf]⟩
          · have h' : c ≥ 8 := by omega
            have HN : okReg 3 2 c = false := by simp [okReg]; omega
            clear h
            go_wp2_with fail
            go_ret
            exact ⟨by simp [checkS, HF.out, codeV, HN], HB2.out _ _⟩
        · skip
          have G0 := hidI g0
          have G1 := hidI g1
          have G2 := hidI g2
          clear g0 g1 g2
          cases fc with
          | true =>
            by_cases hcal : cal < 1
            · obtain rfl : cal = 0 := by omega
              go_wp2_with fail
              go_ret
              exact ⟨by simp [checkS, HF.out, codeV], HB2.out _ _⟩
            have hcal1 : ¬ cal = 0 := by omega
            by_cases h14 : cal > 14
            · go_wp2_with fail
              go_ret
              exact ⟨by simp [checkS, HF.out, codeV]; omega, HB2.out _ _⟩
            have h15 : cal ≤ 14 := by omega
            cases fn with
            | false =>
              by_cases h1 : n = 0
              · subst h1
                go_wp2_with fail
                go_ret
                exact ⟨by simp [checkS, HF.out, codeV, G0.out, G1.out, G2.out, okNum, hcal1, h15], HB2.out _ _⟩
              · have h2 : (n == 0) = false := by simp [h1]
                have h3 : (n != 0) = true := by simp [h1]
                go_wp2_with fail
                go_ret
                exact ⟨by simp [checkS, HF.out, codeV, okNum, h1], HB2.out _ _⟩
            | true =>
              have ek := hidI (num_ok HF.out rfl hn0 hn1)
              go_wp2_with fail
              refine (number_any _ _ _).mono ?_
              rintro e w2 ⟨rfl, hb2⟩
              have HB3 := hidI ((HB2.out _ _).trans (hb2.mono (HB2.out _ _).size))
              clear hb2
              cases hnum : numS kind n with
              | true =>
                have EQ := hidI (ek.out.symm.trans hnum)
                clear hnum
                go_wp2_with fail
                go_ret
                exact ⟨by simp [checkS, HF.out, codeV, G0.out, G1.out, G2.out, EQ.out, hcal1, h15], HB3.out⟩
              | false =>
                have EQ := hidI (ek.out.symm.trans hnum)
                clear hnum
                go_wp2_with fail
                go_ret
                exact ⟨by simp [checkS, HF.out, codeV, EQ.out], HB3.out⟩
          | false =>
            by_cases hcal : cal = 0
            · subst hcal
              cases fn with
              | false =>
                by_cases h1 : n = 0
                · subst h1
                  go_wp2_with fail
                  go_ret
                  exact ⟨by simp [checkS, HF.out, codeV, G0.out, G1.out, G2.out, okNum, Bool.and_true], HB2.out _ _⟩
                · have h2 : (n == 0) = false := by simp [h1]
                  have h3 : (n != 0) = true := by simp [h1]
                  go_wp2_with fail
                  go_ret
                  exact ⟨by simp [checkS, HF.out, codeV, okNum, h1], HB2.out _ _⟩
              | true =>
                have ek := hidI (num_ok HF.out rfl hn0 hn1)
                go_wp2_with fail
                refine (number_any _ _ _).mono ?_
                rintro e w2 ⟨rfl, hb2⟩
                have HB3 := hidI ((HB2.out _ _).trans (hb2.mono (HB2.out _ _).size))
                clear hb2
                cases hnum : numS kind n with
                | true =>
                  have EQ := hidI (ek.out.symm.trans hnum)
                  clear hnum
                  go_wp2_with fail
                  go_ret
                  exact ⟨by simp [checkS, HF.out, codeV, G0.out, G1.out, G2.out, EQ.out, Bool.and_true], HB3.out⟩
                | false =>
                  have EQ := hidI (ek.out.symm.trans hnum)
                  clear hnum
                  go_wp2_with fail
                  go_ret
                  exact ⟨by simp [checkS, HF.out, codeV, EQ.out], HB3.out⟩
            · have e1 : (cal == 0) = false := by simp [hcal]
              have e2 : (cal != 0) = true := by simp [hcal]
              go_wp2_with fail
              go_ret
              exact ⟨by simp [checkS, HF.out, codeV, hcal], HB2.out _ _⟩

end Go.Proofs.YthmmbldhbdnfpaaGreatDoor

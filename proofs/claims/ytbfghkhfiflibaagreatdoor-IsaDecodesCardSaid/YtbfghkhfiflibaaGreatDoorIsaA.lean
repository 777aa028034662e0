/- What an instruction of a kind has; the contracts of formOf, Fields and number. Written by mkisaa.py. -/
import Derived.Test.YtbfghkhfiflibaaGreatDoorMake
namespace Go.Proofs.YtbfghkhfiflibaaGreatDoor
open Go.RowKit

/-- a calculation's kind, so many registers, a number between two -/
structure Fm where
  cal : Bool
  regs : Nat
  n : Bool
  least : Int
  most : Int
def fm (c : Bool) (r : Nat) (n : Bool) : Fm := ⟨c, r, n, -9223372036854775808, 9223372036854775807⟩
def formS (k : Int) : Option Fm :=
  if k = 1 then some (fm false 1 true) else if k = 2 then some (fm false 2 false) else if k = 3 then some (fm true 2 false)
  else if k = 4 ∨ k = 5 ∨ k = 9 ∨ k = 15 then some (fm false 2 true) else if k = 6 then some ⟨false, 0, true, 0, 262144⟩ else if k = 7 then some ⟨false, 1, true, 0, 262144⟩
  else if k = 8 then some (fm false 3 true) else if k = 10 ∨ k = 14 then some (fm false 0 false) else if k = 11 then some (fm false 1 false)
  else if k = 12 then some ⟨false, 2, true, 1, 8⟩ else if k = 13 then some ⟨false, 0, true, 2, 8⟩ else none

theorem kinds {k : Int} (h : formS k ≠ none) : k = 1 ∨ k = 2 ∨ k = 3 ∨ k = 4 ∨ k = 5 ∨ k = 6 ∨ k = 7 ∨ k = 8 ∨ k = 9 ∨ k = 10 ∨ k = 11 ∨ k = 12 ∨ k = 13 ∨ k = 14 ∨ k = 15 := by
  by_cases h' : 1 ≤ k ∧ k ≤ 15
  · omega
  · exfalso
    apply h
    unfold formS
    repeat rw [if_neg (by omega)]
theorem kinds_none {k : Int} (h : formS k = none) : ¬ (1 ≤ k ∧ k ≤ 15) := by
  rintro ⟨h1, h2⟩
  rcases (by omega : k = 1 ∨ k = 2 ∨ k = 3 ∨ k = 4 ∨ k = 5 ∨ k = 6 ∨ k = 7 ∨ k = 8 ∨ k = 9 ∨ k = 10 ∨ k = 11 ∨ k = 12 ∨ k = 13 ∨ k = 14 ∨ k = 15) with rfl | rfl | rfl | rfl | rfl | rfl | rfl | rfl | rfl | rfl | rfl | rfl | rfl | rfl | rfl <;> simp [formS] at h

def encFm (f : Fm) : List Value := [.bool f.cal, .int .i64 (f.regs : Int), .bool f.n, .int .i64 f.least, .int .i64 f.most]
def encFd (f : Fm) : List Value := [.bool f.cal, .int .i64 (f.regs : Int), .bool f.n]
def formV : Option Fm → Value
  | some f => .tuple #[.agg (encFm f).toArray, .bool true]
  | none => .tuple #[.agg #[.bool false, .int .i64 0, .bool false, .int .i64 0, .int .i64 0], .bool false]
def fieldsV : Option Fm → Value
  | some f => .tuple #[.agg (encFd f).toArray, .bool true]
  | none => .tuple #[.agg #[.bool false, .int .i64 0, .bool false], .bool false]

/-- may a kind have that number? -/
def numS (k n : Int) : Bool :=
  if k = 6 ∨ k = 7 then decide (0 ≤ n ∧ n ≤ 262144) else if k = 12 then decide (1 ≤ n ∧ n ≤ 8) else if k = 13 then decide (2 ≤ n ∧ n ≤ 8) else true

set_option maxHeartbeats 1000000 in
theorem formOf_1 (w : World) : Calls Tryz.prog 10 #[.int .u8 1] w fun e w' => e = .returned (.tuple #[.agg #[.bool false, .int .i64 1, .bool true, .int .i64 (-9223372036854775808), .int .i64 9223372036854775807], .bool true]) ∧ Below w.heap.size w w' := by
  go_enter Tryz.func10, Tryz.ntmps10
  go_wp2_with fail
  refine bodyPost_ret (v := .tuple #[.agg #[.bool false, .int .i64 1, .bool true, .int .i64 (-9223372036854775808), .int .i64 9223372036854775807], .bool true]) (by simp [results, Tryz.results10, go_sem]) rfl ⟨rfl, ?_⟩
  first | exact Below.refl _ _ | exact (Below.refl _ _).alloc (Nat.le_refl _) _ | exact ((Below.refl _ _).alloc (Nat.le_refl _) _).alloc (by simp) _

set_option maxHeartbeats 1000000 in
theorem formOf_2 (w : World) : Calls Tryz.prog 10 #[.int .u8 2] w fun e w' => e = .returned (.tuple #[.agg #[.bool false, .int .i64 2, .bool false, .int .i64 (-9223372036854775808), .int .i64 9223372036854775807], .bool true]) ∧ Below w.heap.size w w' := by
  go_enter Tryz.func10, Tryz.ntmps10
  go_wp2_with fail
  refine bodyPost_ret (v := .tuple #[.agg #[.bool false, .int .i64 2, .bool false, .int .i64 (-9223372036854775808), .int .i64 9223372036854775807], .bool true]) (by simp [results, Tryz.results10, go_sem]) rfl ⟨rfl, ?_⟩
  first | exact Below.refl _ _ | exact (Below.refl _ _).alloc (Nat.le_refl _) _ | exact ((Below.refl _ _).alloc (Nat.le_refl _) _).alloc (by simp) _

set_option maxHeartbeats 1000000 in
theorem formOf_3 (w : World) : Calls Tryz.prog 10 #[.int .u8 3] w fun e w' => e = .returned (.tuple #[.agg #[.bool true, .int .i64 2, .bool false, .int .i64 (-9223372036854775808), .int .i64 9223372036854775807], .bool true]) ∧ Below w.heap.size w w' := by
  go_enter Tryz.func10, Tryz.ntmps10
  go_wp2_with fail
  refine bodyPost_ret (v := .tuple #[.agg #[.bool true, .int .i64 2, .bool false, .int .i64 (-9223372036854775808), .int .i64 9223372036854775807], .bool true]) (by simp [results, Tryz.results10, go_sem]) rfl ⟨rfl, ?_⟩
  first | exact Below.refl _ _ | exact (Below.refl _ _).alloc (Nat.le_refl _) _ | exact ((Below.refl _ _).alloc (Nat.le_refl _) _).alloc (by simp) _

set_option maxHeartbeats 1000000 in
theorem formOf_4 (w : World) : Calls Tryz.prog 10 #[.int .u8 4] w fun e w' => e = .returned (.tuple #[.agg #[.bool false, .int .i64 2, .bool true, .int .i64 (-9223372036854775808), .int .i64 9223372036854775807], .bool true]) ∧ Below w.heap.size w w' := by
  go_enter Tryz.func10, Tryz.ntmps10
  go_wp2_with fail
  refine bodyPost_ret (v := .tuple #[.agg #[.bool false, .int .i64 2, .bool true, .int .i64 (-9223372036854775808), .int .i64 9223372036854775807], .bool true]) (by simp [results, Tryz.results10, go_sem]) rfl ⟨rfl, ?_⟩
  first | exact Below.refl _ _ | exact (Below.refl _ _).alloc (Nat.le_refl _) _ | exact ((Below.refl _ _).alloc (Nat.le_refl _) _).alloc (by simp) _

set_option maxHeartbeats 1000000 in
theorem formOf_5 (w : World) : Calls Tryz.prog 10 #[.int .u8 5] w fun e w' => e = .returned (.tuple #[.agg #[.bool false, .int .i64 2, .bool true, .int .i64 (-9223372036854775808), .int .i64 9223372036854775807], .bool true]) ∧ Below w.heap.size w w' := by
  go_enter Tryz.func10, Tryz.ntmps10
  go_wp2_with fail
  refine bodyPost_ret (v := .tuple #[.agg #[.bool false, .int .i64 2, .bool true, .int .i64 (-9223372036854775808), .int .i64 9223372036854775807], .bool true]) (by simp [results, Tryz.results10, go_sem]) rfl ⟨rfl, ?_⟩
  first | exact Below.refl _ _ | exact (Below.refl _ _).alloc (Nat.le_refl _) _ | exact ((Below.refl _ _).alloc (Nat.le_refl _) _).alloc (by simp) _

set_option maxHeartbeats 1000000 in
theorem formOf_6 (w : World) : Calls Tryz.prog 10 #[.int .u8 6] w fun e w' => e = .returned (.tuple #[.agg #[.bool false, .int .i64 0, .bool true, .int .i64 0, .int .i64 262144], .bool true]) ∧ Below w.heap.size w w' := by
  go_enter Tryz.func10, Tryz.ntmps10
  go_wp2_with fail
  refine bodyPost_ret (v := .tuple #[.agg #[.bool false, .int .i64 0, .bool true, .int .i64 0, .int .i64 262144], .bool true]) (by simp [results, Tryz.results10, go_sem]) rfl ⟨rfl, ?_⟩
  first | exact Below.refl _ _ | exact (Below.refl _ _).alloc (Nat.le_refl _) _ | exact ((Below.refl _ _).alloc (Nat.le_refl _) _).alloc (by simp) _

set_option maxHeartbeats 1000000 in
theorem formOf_7 (w : World) : Calls Tryz.prog 10 #[.int .u8 7] w fun e w' => e = .returned (.tuple #[.agg #[.bool false, .int .i64 1, .bool true, .int .i64 0, .int .i64 262144], .bool true]) ∧ Below w.heap.size w w' := by
  go_enter Tryz.func10, Tryz.ntmps10
  go_wp2_with fail
  refine bodyPost_ret (v := .tuple #[.agg #[.bool false, .int .i64 1, .bool true, .int .i64 0, .int .i64 262144], .bool true]) (by simp [results, Tryz.results10, go_sem]) rfl ⟨rfl, ?_⟩
  first | exact Below.refl _ _ | exact (Below.refl _ _).alloc (Nat.le_refl _) _ | exact ((Below.refl _ _).alloc (Nat.le_refl _) _).alloc (by simp) _

set_option maxHeartbeats 1000000 in
theorem formOf_8 (w : World) : Calls Tryz.prog 10 #[.int .u8 8] w fun e w' => e = .returned (.tuple #[.agg #[.bool false, .int .i64 3, .bool true, .int .i64 (-9223372036854775808), .int .i64 9223372036854775807], .bool true]) ∧ Below w.heap.size w w' := by
  go_enter Tryz.func10, Tryz.ntmps10
  go_wp2_with fail
  refine bodyPost_ret (v := .tuple #[.agg #[.bool false, .int .i64 3, .bool true, .int .i64 (-9223372036854775808), .int .i64 9223372036854775807], .bool true]) (by simp [results, Tryz.results10, go_sem]) rfl ⟨rfl, ?_⟩
  first | exact Below.refl _ _ | exact (Below.refl _ _).alloc (Nat.le_refl _) _ | exact ((Below.refl _ _).alloc (Nat.le_refl _) _).alloc (by simp) _

set_option maxHeartbeats 1000000 in
theorem formOf_9 (w : World) : Calls Tryz.prog 10 #[.int .u8 9] w fun e w' => e = .returned (.tuple #[.agg #[.bool false, .int .i64 2, .bool true, .int .i64 (-9223372036854775808), .int .i64 9223372036854775807], .bool true]) ∧ Below w.heap.size w w' := by
  go_enter Tryz.func10, Tryz.ntmps10
  go_wp2_with fail
  refine bodyPost_ret (v := .tuple #[.agg #[.bool false, .int .i64 2, .bool true, .int .i64 (-9223372036854775808), .int .i64 9223372036854775807], .bool true]) (by simp [results, Tryz.results10, go_sem]) rfl ⟨rfl, ?_⟩
  first | exact Below.refl _ _ | exact (Below.refl _ _).alloc (Nat.le_refl _) _ | exact ((Below.refl _ _).alloc (Nat.le_refl _) _).alloc (by simp) _

set_option maxHeartbeats 1000000 in
theorem formOf_10 (w : World) : Calls Tryz.prog 10 #[.int .u8 10] w fun e w' => e = .returned (.tuple #[.agg #[.bool false, .int .i64 0, .bool false, .int .i64 (-9223372036854775808), .int .i64 9223372036854775807], .bool true]) ∧ Below w.heap.size w w' := by
  go_enter Tryz.func10, Tryz.ntmps10
  go_wp2_with fail
  refine bodyPost_ret (v := .tuple #[.agg #[.bool false, .int .i64 0, .bool false, .int .i64 (-9223372036854775808), .int .i64 9223372036854775807], .bool true]) (by simp [results, Tryz.results10, go_sem]) rfl ⟨rfl, ?_⟩
  first | exact Below.refl _ _ | exact (Below.refl _ _).alloc (Nat.le_refl _) _ | exact ((Below.refl _ _).alloc (Nat.le_refl _) _).alloc (by simp) _

set_option maxHeartbeats 1000000 in
theorem formOf_11 (w : World) : Calls Tryz.prog 10 #[.int .u8 11] w fun e w' => e = .returned (.tuple #[.agg #[.bool false, .int .i64 1, .bool false, .int .i64 (-9223372036854775808), .int .i64 9223372036854775807], .bool true]) ∧ Below w.heap.size w w' := by
  go_enter Tryz.func10, Tryz.ntmps10
  go_wp2_with fail
  refine bodyPost_ret (v := .tuple #[.agg #[.bool false, .int .i64 1, .bool false, .int .i64 (-9223372036854775808), .int .i64 9223372036854775807], .bool true]) (by simp [results, Tryz.results10, go_sem]) rfl ⟨rfl, ?_⟩
  first | exact Below.refl _ _ | exact (Below.refl _ _).alloc (Nat.le_refl _) _ | exact ((Below.refl _ _).alloc (Nat.le_refl _) _).alloc (by simp) _

set_option maxHeartbeats 1000000 in
theorem formOf_12 (w : World) : Calls Tryz.prog 10 #[.int .u8 12] w fun e w' => e = .returned (.tuple #[.agg #[.bool false, .int .i64 2, .bool true, .int .i64 1, .int .i64 8], .bool true]) ∧ Below w.heap.size w w' := by
  go_enter Tryz.func10, Tryz.ntmps10
  go_wp2_with fail
  refine bodyPost_ret (v := .tuple #[.agg #[.bool false, .int .i64 2, .bool true, .int .i64 1, .int .i64 8], .bool true]) (by simp [results, Tryz.results10, go_sem]) rfl ⟨rfl, ?_⟩
  first | exact Below.refl _ _ | exact (Below.refl _ _).alloc (Nat.le_refl _) _ | exact ((Below.refl _ _).alloc (Nat.le_refl _) _).alloc (by simp) _

set_option maxHeartbeats 1000000 in
theorem formOf_13 (w : World) : Calls Tryz.prog 10 #[.int .u8 13] w fun e w' => e = .returned (.tuple #[.agg #[.bool false, .int .i64 0, .bool true, .int .i64 2, .int .i64 8], .bool true]) ∧ Below w.heap.size w w' := by
  go_enter Tryz.func10, Tryz.ntmps10
  go_wp2_with fail
  refine bodyPost_ret (v := .tuple #[.agg #[.bool false, .int .i64 0, .bool true, .int .i64 2, .int .i64 8], .bool true]) (by simp [results, Tryz.results10, go_sem]) rfl ⟨rfl, ?_⟩
  first | exact Below.refl _ _ | exact (Below.refl _ _).alloc (Nat.le_refl _) _ | exact ((Below.refl _ _).alloc (Nat.le_refl _) _).alloc (by simp) _

set_option maxHeartbeats 1000000 in
theorem formOf_14 (w : World) : Calls Tryz.prog 10 #[.int .u8 14] w fun e w' => e = .returned (.tuple #[.agg #[.bool false, .int .i64 0, .bool false, .int .i64 (-9223372036854775808), .int .i64 9223372036854775807], .bool true]) ∧ Below w.heap.size w w' := by
  go_enter Tryz.func10, Tryz.ntmps10
  go_wp2_with fail
  refine bodyPost_ret (v := .tuple #[.agg #[.bool false, .int .i64 0, .bool false, .int .i64 (-9223372036854775808), .int .i64 9223372036854775807], .bool true]) (by simp [results, Tryz.results10, go_sem]) rfl ⟨rfl, ?_⟩
  first | exact Below.refl _ _ | exact (Below.refl _ _).alloc (Nat.le_refl _) _ | exact ((Below.refl _ _).alloc (Nat.le_refl _) _).alloc (by simp) _

set_option maxHeartbeats 1000000 in
theorem formOf_15 (w : World) : Calls Tryz.prog 10 #[.int .u8 15] w fun e w' => e = .returned (.tuple #[.agg #[.bool false, .int .i64 2, .bool true, .int .i64 (-9223372036854775808), .int .i64 9223372036854775807], .bool true]) ∧ Below w.heap.size w w' := by
  go_enter Tryz.func10, Tryz.ntmps10
  go_wp2_with fail
  refine bodyPost_ret (v := .tuple #[.agg #[.bool false, .int .i64 2, .bool true, .int .i64 (-9223372036854775808), .int .i64 9223372036854775807], .bool true]) (by simp [results, Tryz.results10, go_sem]) rfl ⟨rfl, ?_⟩
  first | exact Below.refl _ _ | exact (Below.refl _ _).alloc (Nat.le_refl _) _ | exact ((Below.refl _ _).alloc (Nat.le_refl _) _).alloc (by simp) _

set_option maxHeartbeats 1000000 in
theorem formOf_no (w : World) (k : Int) (h : ¬ (1 ≤ k ∧ k ≤ 15)) : Calls Tryz.prog 10 #[.int .u8 k] w fun e w' => e = .returned (.tuple #[.agg #[.bool false, .int .i64 0, .bool false, .int .i64 0, .int .i64 0], .bool false]) ∧ Below w.heap.size w w' := by
  have k1 : (k == 1) = false := by simp; omega
  have k2 : (k == 2) = false := by simp; omega
  have k3 : (k == 3) = false := by simp; omega
  have k4 : (k == 4) = false := by simp; omega
  have k5 : (k == 5) = false := by simp; omega
  have k6 : (k == 6) = false := by simp; omega
  have k7 : (k == 7) = false := by simp; omega
  have k8 : (k == 8) = false := by simp; omega
  have k9 : (k == 9) = false := by simp; omega
  have k10 : (k == 10) = false := by simp; omega
  have k11 : (k == 11) = false := by simp; omega
  have k12 : (k == 12) = false := by simp; omega
  have k13 : (k == 13) = false := by simp; omega
  have k14 : (k == 14) = false := by simp; omega
  have k15 : (k == 15) = false := by simp; omega
  clear h
  go_enter Tryz.func10, Tryz.ntmps10
  go_wp2_with fail
  refine bodyPost_ret (v := .tuple #[.agg #[.bool false, .int .i64 0, .bool false, .int .i64 0, .int .i64 0], .bool false]) (by simp [results, Tryz.results10, go_sem]) rfl ⟨rfl, ?_⟩
  first | exact Below.refl _ _ | exact (Below.refl _ _).alloc (Nat.le_refl _) _ | exact ((Below.refl _ _).alloc (Nat.le_refl _) _).alloc (by simp) _

set_option maxHeartbeats 1000000 in
theorem fields_1 (w : World) : Calls Tryz.prog 94 #[.int .u8 1] w fun e w' => e = .returned (.tuple #[.agg #[.bool false, .int .i64 1, .bool true], .bool true]) ∧ Below w.heap.size w w' := by
  go_enter Tryz.func94, Tryz.ntmps94
  go_wp2_with fail
  refine bodyPost_ret (v := .tuple #[.agg #[.bool false, .int .i64 1, .bool true], .bool true]) (by simp [results, Tryz.results94, go_sem]) rfl ⟨rfl, ?_⟩
  first | exact Below.refl _ _ | exact (Below.refl _ _).alloc (Nat.le_refl _) _ | exact ((Below.refl _ _).alloc (Nat.le_refl _) _).alloc (by simp) _

set_option maxHeartbeats 1000000 in
theorem fields_2 (w : World) : Calls Tryz.prog 94 #[.int .u8 2] w fun e w' => e = .returned (.tuple #[.agg #[.bool false, .int .i64 2, .bool false], .bool true]) ∧ Below w.heap.size w w' := by
  go_enter Tryz.func94, Tryz.ntmps94
  go_wp2_with fail
  refine bodyPost_ret (v := .tuple #[.agg #[.bool false, .int .i64 2, .bool false], .bool true]) (by simp [results, Tryz.results94, go_sem]) rfl ⟨rfl, ?_⟩
  first | exact Below.refl _ _ | exact (Below.refl _ _).alloc (Nat.le_refl _) _ | exact ((Below.refl _ _).alloc (Nat.le_refl _) _).alloc (by simp) _

set_option maxHeartbeats 1000000 in
theorem fields_3 (w : World) : Calls Tryz.prog 94 #[.int .u8 3] w fun e w' => e = .returned (.tuple #[.agg #[.bool true, .int .i64 2, .bool false], .bool true]) ∧ Below w.heap.size w w' := by
  go_enter Tryz.func94, Tryz.ntmps94
  go_wp2_with fail
  refine bodyPost_ret (v := .tuple #[.agg #[.bool true, .int .i64 2, .bool false], .bool true]) (by simp [results, Tryz.results94, go_sem]) rfl ⟨rfl, ?_⟩
  first | exact Below.refl _ _ | exact (Below.refl _ _).alloc (Nat.le_refl _) _ | exact ((Below.refl _ _).alloc (Nat.le_refl _) _).alloc (by simp) _

set_option maxHeartbeats 1000000 in
theorem fields_4 (w : World) : Calls Tryz.prog 94 #[.int .u8 4] w fun e w' => e = .returned (.tuple #[.agg #[.bool false, .int .i64 2, .bool true], .bool true]) ∧ Below w.heap.size w w' := by
  go_enter Tryz.func94, Tryz.ntmps94
  go_wp2_with fail
  refine bodyPost_ret (v := .tuple #[.agg #[.bool false, .int .i64 2, .bool true], .bool true]) (by simp [results, Tryz.results94, go_sem]) rfl ⟨rfl, ?_⟩
  first | exact Below.refl _ _ | exact (Below.refl _ _).alloc (Nat.le_refl _) _ | exact ((Below.refl _ _).alloc (Nat.le_refl _) _).alloc (by simp) _

set_option maxHeartbeats 1000000 in
theorem fields_5 (w : World) : Calls Tryz.prog 94 #[.int .u8 5] w fun e w' => e = .returned (.tuple #[.agg #[.bool false, .int .i64 2, .bool true], .bool true]) ∧ Below w.heap.size w w' := by
  go_enter Tryz.func94, Tryz.ntmps94
  go_wp2_with fail
  refine bodyPost_ret (v := .tuple #[.agg #[.bool false, .int .i64 2, .bool true], .bool true]) (by simp [results, Tryz.results94, go_sem]) rfl ⟨rfl, ?_⟩
  first | exact Below.refl _ _ | exact (Below.refl _ _).alloc (Nat.le_refl _) _ | exact ((Below.refl _ _).alloc (Nat.le_refl _) _).alloc (by simp) _

set_option maxHeartbeats 1000000 in
theorem fields_6 (w : World) : Calls Tryz.prog 94 #[.int .u8 6] w fun e w' => e = .returned (.tuple #[.agg #[.bool false, .int .i64 0, .bool true], .bool true]) ∧ Below w.heap.size w w' := by
  go_enter Tryz.func94, Tryz.ntmps94
  go_wp2_with fail
  refine bodyPost_ret (v := .tuple #[.agg #[.bool false, .int .i64 0, .bool true], .bool true]) (by simp [results, Tryz.results94, go_sem]) rfl ⟨rfl, ?_⟩
  first | exact Below.refl _ _ | exact (Below.refl _ _).alloc (Nat.le_refl _) _ | exact ((Below.refl _ _).alloc (Nat.le_refl _) _).alloc (by simp) _

set_option maxHeartbeats 1000000 in
theorem fields_7 (w : World) : Calls Tryz.prog 94 #[.int .u8 7] w fun e w' => e = .returned (.tuple #[.agg #[.bool false, .int .i64 1, .bool true], .bool true]) ∧ Below w.heap.size w w' := by
  go_enter Tryz.func94, Tryz.ntmps94
  go_wp2_with fail
  refine bodyPost_ret (v := .tuple #[.agg #[.bool false, .int .i64 1, .bool true], .bool true]) (by simp [results, Tryz.results94, go_sem]) rfl ⟨rfl, ?_⟩
  first | exact Below.refl _ _ | exact (Below.refl _ _).alloc (Nat.le_refl _) _ | exact ((Below.refl _ _).alloc (Nat.le_refl _) _).alloc (by simp) _

set_option maxHeartbeats 1000000 in
theorem fields_8 (w : World) : Calls Tryz.prog 94 #[.int .u8 8] w fun e w' => e = .returned (.tuple #[.agg #[.bool false, .int .i64 3, .bool true], .bool true]) ∧ Below w.heap.size w w' := by
  go_enter Tryz.func94, Tryz.ntmps94
  go_wp2_with fail
  refine bodyPost_ret (v := .tuple #[.agg #[.bool false, .int .i64 3, .bool true], .bool true]) (by simp [results, Tryz.results94, go_sem]) rfl ⟨rfl, ?_⟩
  first | exact Below.refl _ _ | exact (Below.refl _ _).alloc (Nat.le_refl _) _ | exact ((Below.refl _ _).alloc (Nat.le_refl _) _).alloc (by simp) _

set_option maxHeartbeats 1000000 in
theorem fields_9 (w : World) : Calls Tryz.prog 94 #[.int .u8 9] w fun e w' => e = .returned (.tuple #[.agg #[.bool false, .int .i64 2, .bool true], .bool true]) ∧ Below w.heap.size w w' := by
  go_enter Tryz.func94, Tryz.ntmps94
  go_wp2_with fail
  refine bodyPost_ret (v := .tuple #[.agg #[.bool false, .int .i64 2, .bool true], .bool true]) (by simp [results, Tryz.results94, go_sem]) rfl ⟨rfl, ?_⟩
  first | exact Below.refl _ _ | exact (Below.refl _ _).alloc (Nat.le_refl _) _ | exact ((Below.refl _ _).alloc (Nat.le_refl _) _).alloc (by simp) _

set_option maxHeartbeats 1000000 in
theorem fields_10 (w : World) : Calls Tryz.prog 94 #[.int .u8 10] w fun e w' => e = .returned (.tuple #[.agg #[.bool false, .int .i64 0, .bool false], .bool true]) ∧ Below w.heap.size w w' := by
  go_enter Tryz.func94, Tryz.ntmps94
  go_wp2_with fail
  refine bodyPost_ret (v := .tuple #[.agg #[.bool false, .int .i64 0, .bool false], .bool true]) (by simp [results, Tryz.results94, go_sem]) rfl ⟨rfl, ?_⟩
  first | exact Below.refl _ _ | exact (Below.refl _ _).alloc (Nat.le_refl _) _ | exact ((Below.refl _ _).alloc (Nat.le_refl _) _).alloc (by simp) _

set_option maxHeartbeats 1000000 in
theorem fields_11 (w : World) : Calls Tryz.prog 94 #[.int .u8 11] w fun e w' => e = .returned (.tuple #[.agg #[.bool false, .int .i64 1, .bool false], .bool true]) ∧ Below w.heap.size w w' := by
  go_enter Tryz.func94, Tryz.ntmps94
  go_wp2_with fail
  refine bodyPost_ret (v := .tuple #[.agg #[.bool false, .int .i64 1, .bool false], .bool true]) (by simp [results, Tryz.results94, go_sem]) rfl ⟨rfl, ?_⟩
  first | exact Below.refl _ _ | exact (Below.refl _ _).alloc (Nat.le_refl _) _ | exact ((Below.refl _ _).alloc (Nat.le_refl _) _).alloc (by simp) _

set_option maxHeartbeats 1000000 in
theorem fields_12 (w : World) : Calls Tryz.prog 94 #[.int .u8 12] w fun e w' => e = .returned (.tuple #[.agg #[.bool false, .int .i64 2, .bool true], .bool true]) ∧ Below w.heap.size w w' := by
  go_enter Tryz.func94, Tryz.ntmps94
  go_wp2_with fail
  refine bodyPost_ret (v := .tuple #[.agg #[.bool false, .int .i64 2, .bool true], .bool true]) (by simp [results, Tryz.results94, go_sem]) rfl ⟨rfl, ?_⟩
  first | exact Below.refl _ _ | exact (Below.refl _ _).alloc (Nat.le_refl _) _ | exact ((Below.refl _ _).alloc (Nat.le_refl _) _).alloc (by simp) _

set_option maxHeartbeats 1000000 in
theorem fields_13 (w : World) : Calls Tryz.prog 94 #[.int .u8 13] w fun e w' => e = .returned (.tuple #[.agg #[.bool false, .int .i64 0, .bool true], .bool true]) ∧ Below w.heap.size w w' := by
  go_enter Tryz.func94, Tryz.ntmps94
  go_wp2_with fail
  refine bodyPost_ret (v := .tuple #[.agg #[.bool false, .int .i64 0, .bool true], .bool true]) (by simp [results, Tryz.results94, go_sem]) rfl ⟨rfl, ?_⟩
  first | exact Below.refl _ _ | exact (Below.refl _ _).alloc (Nat.le_refl _) _ | exact ((Below.refl _ _).alloc (Nat.le_refl _) _).alloc (by simp) _

set_option maxHeartbeats 1000000 in
theorem fields_14 (w : World) : Calls Tryz.prog 94 #[.int .u8 14] w fun e w' => e = .returned (.tuple #[.agg #[.bool false, .int .i64 0, .bool false], .bool true]) ∧ Below w.heap.size w w' := by
  go_enter Tryz.func94, Tryz.ntmps94
  go_wp2_with fail
  refine bodyPost_ret (v := .tuple #[.agg #[.bool false, .int .i64 0, .bool false], .bool true]) (by simp [results, Tryz.results94, go_sem]) rfl ⟨rfl, ?_⟩
  first | exact Below.refl _ _ | exact (Below.refl _ _).alloc (Nat.le_refl _) _ | exact ((Below.refl _ _).alloc (Nat.le_refl _) _).alloc (by simp) _

set_option maxHeartbeats 1000000 in
theorem fields_15 (w : World) : Calls Tryz.prog 94 #[.int .u8 15] w fun e w' => e = .returned (.tuple #[.agg #[.bool false, .int .i64 2, .bool true], .bool true]) ∧ Below w.heap.size w w' := by
  go_enter Tryz.func94, Tryz.ntmps94
  go_wp2_with fail
  refine bodyPost_ret (v := .tuple #[.agg #[.bool false, .int .i64 2, .bool true], .bool true]) (by simp [results, Tryz.results94, go_sem]) rfl ⟨rfl, ?_⟩
  first | exact Below.refl _ _ | exact (Below.refl _ _).alloc (Nat.le_refl _) _ | exact ((Below.refl _ _).alloc (Nat.le_refl _) _).alloc (by simp) _

set_option maxHeartbeats 1000000 in
theorem fields_no (w : World) (k : Int) (h : ¬ (1 ≤ k ∧ k ≤ 15)) : Calls Tryz.prog 94 #[.int .u8 k] w fun e w' => e = .returned (.tuple #[.agg #[.bool false, .int .i64 0, .bool false], .bool false]) ∧ Below w.heap.size w w' := by
  have k1 : (k == 1) = false := by simp; omega
  have k2 : (k == 2) = false := by simp; omega
  have k3 : (k == 3) = false := by simp; omega
  have k4 : (k == 4) = false := by simp; omega
  have k5 : (k == 5) = false := by simp; omega
  have k6 : (k == 6) = false := by simp; omega
  have k7 : (k == 7) = false := by simp; omega
  have k8 : (k == 8) = false := by simp; omega
  have k9 : (k == 9) = false := by simp; omega
  have k10 : (k == 10) = false := by simp; omega
  have k11 : (k == 11) = false := by simp; omega
  have k12 : (k == 12) = false := by simp; omega
  have k13 : (k == 13) = false := by simp; omega
  have k14 : (k == 14) = false := by simp; omega
  have k15 : (k == 15) = false := by simp; omega
  clear h
  go_enter Tryz.func94, Tryz.ntmps94
  go_wp2_with fail
  refine bodyPost_ret (v := .tuple #[.agg #[.bool false, .int .i64 0, .bool false], .bool false]) (by simp [results, Tryz.results94, go_sem]) rfl ⟨rfl, ?_⟩
  first | exact Below.refl _ _ | exact (Below.refl _ _).alloc (Nat.le_refl _) _ | exact ((Below.refl _ _).alloc (Nat.le_refl _) _).alloc (by simp) _

theorem formOf_any (w : World) (k : Int) : Calls Tryz.prog 10 #[.int .u8 k] w fun e w' => e = .returned (formV (formS k)) ∧ Below w.heap.size w w' := by
  cases h : formS k with
  | none => exact formOf_no w k (kinds_none h)
  | some f =>
    have hk := kinds (k := k) (by rw [h]; simp)
    rcases hk with rfl | rfl | rfl | rfl | rfl | rfl | rfl | rfl | rfl | rfl | rfl | rfl | rfl | rfl | rfl
    · simp [formS] at h; subst h; exact formOf_1 w
    · simp [formS] at h; subst h; exact formOf_2 w
    · simp [formS] at h; subst h; exact formOf_3 w
    · simp [formS] at h; subst h; exact formOf_4 w
    · simp [formS] at h; subst h; exact formOf_5 w
    · simp [formS] at h; subst h; exact formOf_6 w
    · simp [formS] at h; subst h; exact formOf_7 w
    · simp [formS] at h; subst h; exact formOf_8 w
    · simp [formS] at h; subst h; exact formOf_9 w
    · simp [formS] at h; subst h; exact formOf_10 w
    · simp [formS] at h; subst h; exact formOf_11 w
    · simp [formS] at h; subst h; exact formOf_12 w
    · simp [formS] at h; subst h; exact formOf_13 w
    · simp [formS] at h; subst h; exact formOf_14 w
    · simp [formS] at h; subst h; exact formOf_15 w

theorem fields_any (w : World) (k : Int) : Calls Tryz.prog 94 #[.int .u8 k] w fun e w' => e = .returned (fieldsV (formS k)) ∧ Below w.heap.size w w' := by
  cases h : formS k with
  | none => exact fields_no w k (kinds_none h)
  | some f =>
    have hk := kinds (k := k) (by rw [h]; simp)
    rcases hk with rfl | rfl | rfl | rfl | rfl | rfl | rfl | rfl | rfl | rfl | rfl | rfl | rfl | rfl | rfl
    · simp [formS] at h; subst h; exact fields_1 w
    · simp [formS] at h; subst h; exact fields_2 w
    · simp [formS] at h; subst h; exact fields_3 w
    · simp [formS] at h; subst h; exact fields_4 w
    · simp [formS] at h; subst h; exact fields_5 w
    · simp [formS] at h; subst h; exact fields_6 w
    · simp [formS] at h; subst h; exact fields_7 w
    · simp [formS] at h; subst h; exact fields_8 w
    · simp [formS] at h; subst h; exact fields_9 w
    · simp [formS] at h; subst h; exact fields_10 w
    · simp [formS] at h; subst h; exact fields_11 w
    · simp [formS] at h; subst h; exact fields_12 w
    · simp [formS] at h; subst h; exact fields_13 w
    · simp [formS] at h; subst h; exact fields_14 w
    · simp [formS] at h; subst h; exact fields_15 w

end Go.Proofs.YtbfghkhfiflibaaGreatDoor

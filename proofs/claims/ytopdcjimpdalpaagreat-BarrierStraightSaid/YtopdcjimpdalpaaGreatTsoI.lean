/- isa.Check, for the machine: the program's half of XIsaA and XIsaB. (Written by mktsoi.py.) -/
import Derived.Test.YtopdcjimpdalpaaGreatMake
namespace Go.Proofs.YtopdcjimpdalpaaGreat
open Go.RowKit

/-- a calculation's kind, so many registers, a number between two -/
structure Fm where
  cal : Bool
  regs : Nat
  n : Bool
  least : Int
  most : Int
def fm (c : Bool) (r : Nat) (n : Bool) : Fm := ⟨c, r, n, -9223372036854775808, 9223372036854775807⟩
def formS (k : Int) : Option Fm :=
  if k = 1 then some (fm false 1 true) else if k = 2 then some (fm false 2 false) else if k = 3 then some (fm true 2 false)
  else if k = 4 ∨ k = 5 ∨ k = 9 ∨ k = 15 then some (fm false 2 true) else if k = 6 then some ⟨false, 0, true, 0, 262144⟩ else if k = 7 then some ⟨false, 1, true, 0, 262144⟩
  else if k = 8 then some (fm false 3 true) else if k = 10 ∨ k = 14 then some (fm false 0 false) else if k = 11 then some (fm false 1 false)
  else if k = 12 then some ⟨false, 2, true, 1, 8⟩ else if k = 13 then some ⟨false, 0, true, 2, 8⟩ else none

theorem kinds {k : Int} (h : formS k ≠ none) : k = 1 ∨ k = 2 ∨ k = 3 ∨ k = 4 ∨ k = 5 ∨ k = 6 ∨ k = 7 ∨ k = 8 ∨ k = 9 ∨ k = 10 ∨ k = 11 ∨ k = 12 ∨ k = 13 ∨ k = 14 ∨ k = 15 := by
  by_cases h' : 1 ≤ k ∧ k ≤ 15
  · omega
  · exfalso
    apply h
    unfold formS
    repeat rw [if_neg (by omega)]
theorem kinds_none {k : Int} (h : formS k = none) : ¬ (1 ≤ k ∧ k ≤ 15) := by
  rintro ⟨h1, h2⟩
  rcases (by omega : k = 1 ∨ k = 2 ∨ k = 3 ∨ k = 4 ∨ k = 5 ∨ k = 6 ∨ k = 7 ∨ k = 8 ∨ k = 9 ∨ k = 10 ∨ k = 11 ∨ k = 12 ∨ k = 13 ∨ k = 14 ∨ k = 15) with rfl | rfl | rfl | rfl | rfl | rfl | rfl | rfl | rfl | rfl | rfl | rfl | rfl | rfl | rfl <;> simp [formS] at h

def encFm (f : Fm) : List Value := [.bool f.cal, .int .i64 (f.regs : Int), .bool f.n, .int .i64 f.least, .int .i64 f.most]
def encFd (f : Fm) : List Value := [.bool f.cal, .int .i64 (f.regs : Int), .bool f.n]
def formV : Option Fm → Value
  | some f => .tuple #[.agg (encFm f).toArray, .bool true]
  | none => .tuple #[.agg #[.bool false, .int .i64 0, .bool false, .int .i64 0, .int .i64 0], .bool false]
def fieldsV : Option Fm → Value
  | some f => .tuple #[.agg (encFd f).toArray, .bool true]
  | none => .tuple #[.agg #[.bool false, .int .i64 0, .bool false], .bool false]

/-- may a kind have that number? -/
def numS (k n : Int) : Bool :=
  if k = 6 ∨ k = 7 then decide (0 ≤ n ∧ n ≤ 262144) else if k = 12 then decide (1 ≤ n ∧ n ≤ 8) else if k = 13 then decide (2 ≤ n ∧ n ≤ 8) else true

set_option maxHeartbeats 1000000 in
theorem formOf_1 (w : World) : Calls Tryz.prog 167 #[.int .u8 1] w fun e w' => e = .returned (.tuple #[.agg #[.bool false, .int .i64 1, .bool true, .int .i64 (-9223372036854775808), .int .i64 9223372036854775807], .bool true]) ∧ Below w.heap.size w w' := by
  go_enter Tryz.func167, Tryz.ntmps167
  go_wp2_with fail
  refine bodyPost_ret (v := .tuple #[.agg #[.bool false, .int .i64 1, .bool true, .int .i64 (-9223372036854775808), .int .i64 9223372036854775807], .bool true]) (by simp [results, Tryz.results167, go_sem]) rfl ⟨rfl, ?_⟩
  first | exact Below.refl _ _ | exact (Below.refl _ _).alloc (Nat.le_refl _) _ | exact ((Below.refl _ _).alloc (Nat.le_refl _) _).alloc (by simp) _

set_option maxHeartbeats 1000000 in
theorem formOf_2 (w : World) : Calls Tryz.prog 167 #[.int .u8 2] w fun e w' => e = .returned (.tuple #[.agg #[.bool false, .int .i64 2, .bool false, .int .i64 (-9223372036854775808), .int .i64 9223372036854775807], .bool true]) ∧ Below w.heap.size w w' := by
  go_enter Tryz.func167, Tryz.ntmps167
  go_wp2_with fail
  refine bodyPost_ret (v := .tuple #[.agg #[.bool false, .int .i64 2, .bool false, .int .i64 (-9223372036854775808), .int .i64 9223372036854775807], .bool true]) (by simp [results, Tryz.results167, go_sem]) rfl ⟨rfl, ?_⟩
  first | exact Below.refl _ _ | exact (Below.refl _ _).alloc (Nat.le_refl _) _ | exact ((Below.refl _ _).alloc (Nat.le_refl _) _).alloc (by simp) _

set_option maxHeartbeats 1000000 in
theorem formOf_3 (w : World) : Calls Tryz.prog 167 #[.int .u8 3] w fun e w' => e = .returned (.tuple #[.agg #[.bool true, .int .i64 2, .bool false, .int .i64 (-9223372036854775808), .int .i64 9223372036854775807], .bool true]) ∧ Below w.heap.size w w' := by
  go_enter Tryz.func167, Tryz.ntmps167
  go_wp2_with fail
  refine bodyPost_ret (v := .tuple #[.agg #[.bool true, .int .i64 2, .bool false, .int .i64 (-9223372036854775808), .int .i64 9223372036854775807], .bool true]) (by simp [results, Tryz.results167, go_sem]) rfl ⟨rfl, ?_⟩
  first | exact Below.refl _ _ | exact (Below.refl _ _).alloc (Nat.le_refl _) _ | exact ((Below.refl _ _).alloc (Nat.le_refl _) _).alloc (by simp) _

set_option maxHeartbeats 1000000 in
theorem formOf_4 (w : World) : Calls Tryz.prog 167 #[.int .u8 4] w fun e w' => e = .returned (.tuple #[.agg #[.bool false, .int .i64 2, .bool true, .int .i64 (-9223372036854775808), .int .i64 9223372036854775807], .bool true]) ∧ Below w.heap.size w w' := by
  go_enter Tryz.func167, Tryz.ntmps167
  go_wp2_with fail
  refine bodyPost_ret (v := .tuple #[.agg #[.bool false, .int .i64 2, .bool true, .int .i64 (-9223372036854775808), .int .i64 9223372036854775807], .bool true]) (by simp [results, Tryz.results167, go_sem]) rfl ⟨rfl, ?_⟩
  first | exact Below.refl _ _ | exact (Below.refl _ _).alloc (Nat.le_refl _) _ | exact ((Below.refl _ _).alloc (Nat.le_refl _) _).alloc (by simp) _

set_option maxHeartbeats 1000000 in
theorem formOf_5 (w : World) : Calls Tryz.prog 167 #[.int .u8 5] w fun e w' => e = .returned (.tuple #[.agg #[.bool false, .int .i64 2, .bool true, .int .i64 (-9223372036854775808), .int .i64 9223372036854775807], .bool true]) ∧ Below w.heap.size w w' := by
  go_enter Tryz.func167, Tryz.ntmps167
  go_wp2_with fail
  refine bodyPost_ret (v := .tuple #[.agg #[.bool false, .int .i64 2, .bool true, .int .i64 (-9223372036854775808), .int .i64 9223372036854775807], .bool true]) (by simp [results, Tryz.results167, go_sem]) rfl ⟨rfl, ?_⟩
  first | exact Below.refl _ _ | exact (Below.refl _ _).alloc (Nat.le_refl _) _ | exact ((Below.refl _ _).alloc (Nat.le_refl _) _).alloc (by simp) _

set_option maxHeartbeats 1000000 in
theorem formOf_6 (w : World) : Calls Tryz.prog 167 #[.int .u8 6] w fun e w' => e = .returned (.tuple #[.agg #[.bool false, .int .i64 0, .bool true, .int .i64 0, .int .i64 262144], .bool true]) ∧ Below w.heap.size w w' := by
  go_enter Tryz.func167, Tryz.ntmps167
  go_wp2_with fail
  refine bodyPost_ret (v := .tuple #[.agg #[.bool false, .int .i64 0, .bool true, .int .i64 0, .int .i64 262144], .bool true]) (by simp [results, Tryz.results167, go_sem]) rfl ⟨rfl, ?_⟩
  first | exact Below.refl _ _ | exact (Below.refl _ _).alloc (Nat.le_refl _) _ | exact ((Below.refl _ _).alloc (Nat.le_refl _) _).alloc (by simp) _

set_option maxHeartbeats 1000000 in
theorem formOf_7 (w : World) : Calls Tryz.prog 167 #[.int .u8 7] w fun e w' => e = .returned (.tuple #[.agg #[.bool false, .int .i64 1, .bool true, .int .i64 0, .int .i64 262144], .bool true]) ∧ Below w.heap.size w w' := by
  go_enter Tryz.func167, Tryz.ntmps167
  go_wp2_with fail
  refine bodyPost_ret (v := .tuple #[.agg #[.bool false, .int .i64 1, .bool true, .int .i64 0, .int .i64 262144], .bool true]) (by simp [results, Tryz.results167, go_sem]) rfl ⟨rfl, ?_⟩
  first | exact Below.refl _ _ | exact (Below.refl _ _).alloc (Nat.le_refl _) _ | exact ((Below.refl _ _).alloc (Nat.le_refl _) _).alloc (by simp) _

set_option maxHeartbeats 1000000 in
theorem formOf_8 (w : World) : Calls Tryz.prog 167 #[.int .u8 8] w fun e w' => e = .returned (.tuple #[.agg #[.bool false, .int .i64 3, .bool true, .int .i64 (-9223372036854775808), .int .i64 9223372036854775807], .bool true]) ∧ Below w.heap.size w w' := by
  go_enter Tryz.func167, Tryz.ntmps167
  go_wp2_with fail
  refine bodyPost_ret (v := .tuple #[.agg #[.bool false, .int .i64 3, .bool true, .int .i64 (-9223372036854775808), .int .i64 9223372036854775807], .bool true]) (by simp [results, Tryz.results167, go_sem]) rfl ⟨rfl, ?_⟩
  first | exact Below.refl _ _ | exact (Below.refl _ _).alloc (Nat.le_refl _) _ | exact ((Below.refl _ _).alloc (Nat.le_refl _) _).alloc (by simp) _

set_option maxHeartbeats 1000000 in
theorem formOf_9 (w : World) : Calls Tryz.prog 167 #[.int .u8 9] w fun e w' => e = .returned (.tuple #[.agg #[.bool false, .int .i64 2, .bool true, .int .i64 (-9223372036854775808), .int .i64 9223372036854775807], .bool true]) ∧ Below w.heap.size w w' := by
  go_enter Tryz.func167, Tryz.ntmps167
  go_wp2_with fail
  refine bodyPost_ret (v := .tuple #[.agg #[.bool false, .int .i64 2, .bool true, .int .i64 (-9223372036854775808), .int .i64 9223372036854775807], .bool true]) (by simp [results, Tryz.results167, go_sem]) rfl ⟨rfl, ?_⟩
  first | exact Below.refl _ _ | exact (Below.refl _ _).alloc (Nat.le_refl _) _ | exact ((Below.refl _ _).alloc (Nat.le_refl _) _).alloc (by simp) _

set_option maxHeartbeats 1000000 in
theorem formOf_10 (w : World) : Calls Tryz.prog 167 #[.int .u8 10] w fun e w' => e = .returned (.tuple #[.agg #[.bool false, .int .i64 0, .bool false, .int .i64 (-9223372036854775808), .int .i64 9223372036854775807], .bool true]) ∧ Below w.heap.size w w' := by
  go_enter Tryz.func167, Tryz.ntmps167
  go_wp2_with fail
  refine bodyPost_ret (v := .tuple #[.agg #[.bool false, .int .i64 0, .bool false, .int .i64 (-9223372036854775808), .int .i64 9223372036854775807], .bool true]) (by simp [results, Tryz.results167, go_sem]) rfl ⟨rfl, ?_⟩
  first | exact Below.refl _ _ | exact (Below.refl _ _).alloc (Nat.le_refl _) _ | exact ((Below.refl _ _).alloc (Nat.le_refl _) _).alloc (by simp) _

set_option maxHeartbeats 1000000 in
theorem formOf_11 (w : World) : Calls Tryz.prog 167 #[.int .u8 11] w fun e w' => e = .returned (.tuple #[.agg #[.bool false, .int .i64 1, .bool false, .int .i64 (-9223372036854775808), .int .i64 9223372036854775807], .bool true]) ∧ Below w.heap.size w w' := by
  go_enter Tryz.func167, Tryz.ntmps167
  go_wp2_with fail
  refine bodyPost_ret (v := .tuple #[.agg #[.bool false, .int .i64 1, .bool false, .int .i64 (-9223372036854775808), .int .i64 9223372036854775807], .bool true]) (by simp [results, Tryz.results167, go_sem]) rfl ⟨rfl, ?_⟩
  first | exact Below.refl _ _ | exact (Below.refl _ _).alloc (Nat.le_refl _) _ | exact ((Below.refl _ _).alloc (Nat.le_refl _) _).alloc (by simp) _

set_option maxHeartbeats 1000000 in
theorem formOf_12 (w : World) : Calls Tryz.prog 167 #[.int .u8 12] w fun e w' => e = .returned (.tuple #[.agg #[.bool false, .int .i64 2, .bool true, .int .i64 1, .int .i64 8], .bool true]) ∧ Below w.heap.size w w' := by
  go_enter Tryz.func167, Tryz.ntmps167
  go_wp2_with fail
  refine bodyPost_ret (v := .tuple #[.agg #[.bool false, .int .i64 2, .bool true, .int .i64 1, .int .i64 8], .bool true]) (by simp [results, Tryz.results167, go_sem]) rfl ⟨rfl, ?_⟩
  first | exact Below.refl _ _ | exact (Below.refl _ _).alloc (Nat.le_refl _) _ | exact ((Below.refl _ _).alloc (Nat.le_refl _) _).alloc (by simp) _

set_option maxHeartbeats 1000000 in
theorem formOf_13 (w : World) : Calls Tryz.prog 167 #[.int .u8 13] w fun e w' => e = .returned (.tuple #[.agg #[.bool false, .int .i64 0, .bool true, .int .i64 2, .int .i64 8], .bool true]) ∧ Below w.heap.size w w' := by
  go_enter Tryz.func167, Tryz.ntmps167
  go_wp2_with fail
  refine bodyPost_ret (v := .tuple #[.agg #[.bool false, .int .i64 0, .bool true, .int .i64 2, .int .i64 8], .bool true]) (by simp [results, Tryz.results167, go_sem]) rfl ⟨rfl, ?_⟩
  first | exact Below.refl _ _ | exact (Below.refl _ _).alloc (Nat.le_refl _) _ | exact ((Below.refl _ _).alloc (Nat.le_refl _) _).alloc (by simp) _

set_option maxHeartbeats 1000000 in
theorem formOf_14 (w : World) : Calls Tryz.prog 167 #[.int .u8 14] w fun e w' => e = .returned (.tuple #[.agg #[.bool false, .int .i64 0, .bool false, .int .i64 (-9223372036854775808), .int .i64 9223372036854775807], .bool true]) ∧ Below w.heap.size w w' := by
  go_enter Tryz.func167, Tryz.ntmps167
  go_wp2_with fail
  refine bodyPost_ret (v := .tuple #[.agg #[.bool false, .int .i64 0, .bool false, .int .i64 (-9223372036854775808), .int .i64 9223372036854775807], .bool true]) (by simp [results, Tryz.results167, go_sem]) rfl ⟨rfl, ?_⟩
  first | exact Below.refl _ _ | exact (Below.refl _ _).alloc (Nat.le_refl _) _ | exact ((Below.refl _ _).alloc (Nat.le_refl _) _).alloc (by simp) _

set_option maxHeartbeats 1000000 in
theorem formOf_15 (w : World) : Calls Tryz.prog 167 #[.int .u8 15] w fun e w' => e = .returned (.tuple #[.agg #[.bool false, .int .i64 2, .bool true, .int .i64 (-9223372036854775808), .int .i64 9223372036854775807], .bool true]) ∧ Below w.heap.size w w' := by
  go_enter Tryz.func167, Tryz.ntmps167
  go_wp2_with fail
  refine bodyPost_ret (v := .tuple #[.agg #[.bool false, .int .i64 2, .bool true, .int .i64 (-9223372036854775808), .int .i64 9223372036854775807], .bool true]) (by simp [results, Tryz.results167, go_sem]) rfl ⟨rfl, ?_⟩
  first | exact Below.refl _ _ | exact (Below.refl _ _).alloc (Nat.le_refl _) _ | exact ((Below.refl _ _).alloc (Nat.le_refl _) _).alloc (by simp) _

set_option maxHeartbeats 1000000 in
theorem formOf_no (w : World) (k : Int) (h : ¬ (1 ≤ k ∧ k ≤ 15)) : Calls Tryz.prog 167 #[.int .u8 k] w fun e w' => e = .returned (.tuple #[.agg #[.bool false, .int .i64 0, .bool false, .int .i64 0, .int .i64 0], .bool false]) ∧ Below w.heap.size w w' := by
  have k1 : (k == 1) = false := by simp; omega
  have k2 : (k == 2) = false := by simp; omega
  have k3 : (k == 3) = false := by simp; omega
  have k4 : (k == 4) = false := by simp; omega
  have k5 : (k == 5) = false := by simp; omega
  have k6 : (k == 6) = false := by simp; omega
  have k7 : (k == 7) = false := by simp; omega
  have k8 : (k == 8) = false := by simp; omega
  have k9 : (k == 9) = false := by simp; omega
  have k10 : (k == 10) = false := by simp; omega
  have k11 : (k == 11) = false := by simp; omega
  have k12 : (k == 12) = false := by simp; omega
  have k13 : (k == 13) = false := by simp; omega
  have k14 : (k == 14) = false := by simp; omega
  have k15 : (k == 15) = false := by simp; omega
  clear h
  go_enter Tryz.func167, Tryz.ntmps167
  go_wp2_with fail
  refine bodyPost_ret (v := .tuple #[.agg #[.bool false, .int .i64 0, .bool false, .int .i64 0, .int .i64 0], .bool false]) (by simp [results, Tryz.results167, go_sem]) rfl ⟨rfl, ?_⟩
  first | exact Below.refl _ _ | exact (Below.refl _ _).alloc (Nat.le_refl _) _ | exact ((Below.refl _ _).alloc (Nat.le_refl _) _).alloc (by simp) _

theorem formOf_any (w : World) (k : Int) : Calls Tryz.prog 167 #[.int .u8 k] w fun e w' => e = .returned (formV (formS k)) ∧ Below w.heap.size w w' := by
  cases h : formS k with
  | none => exact formOf_no w k (kinds_none h)
  | some f =>
    have hk := kinds (k := k) (by rw [h]; simp)
    rcases hk with rfl | rfl | rfl | rfl | rfl | rfl | rfl | rfl | rfl | rfl | rfl | rfl | rfl | rfl | rfl
    · simp [formS] at h; subst h; exact formOf_1 w
    · simp [formS] at h; subst h; exact formOf_2 w
    · simp [formS] at h; subst h; exact formOf_3 w
    · simp [formS] at h; subst h; exact formOf_4 w
    · simp [formS] at h; subst h; exact formOf_5 w
    · simp [formS] at h; subst h; exact formOf_6 w
    · simp [formS] at h; subst h; exact formOf_7 w
    · simp [formS] at h; subst h; exact formOf_8 w
    · simp [formS] at h; subst h; exact formOf_9 w
    · simp [formS] at h; subst h; exact formOf_10 w
    · simp [formS] at h; subst h; exact formOf_11 w
    · simp [formS] at h; subst h; exact formOf_12 w
    · simp [formS] at h; subst h; exact formOf_13 w
    · simp [formS] at h; subst h; exact formOf_14 w
    · simp [formS] at h; subst h; exact formOf_15 w

/-- an instruction's fields -/
structure OpD where
  kind : Int
  cal : Int
  a : Int
  b : Int
  c : Int
  n : Int
def encOp (o : OpD) : List Value := [.int .u8 o.kind, .int .u8 o.cal, .int .u8 o.a, .int .u8 o.b, .int .u8 o.c, .int .i64 o.n]
theorem encOp_len : ∀ o, (encOp o).length = 6 := fun _ => rfl
def okReg (regs i : Nat) (r : Int) : Bool := if i < regs then decide (r < 8) else decide (r = 0)
def okNum (f : Fm) (n : Int) : Bool := if f.n = true then decide (f.least ≤ n) && decide (n ≤ f.most) else decide (n = 0)
def checkS (o : OpD) : Bool := match formS o.kind with
  | none => false
  | some f => (f.cal == decide (o.cal ≠ 0)) && decide (o.cal ≤ 14) && okReg f.regs 0 o.a && okReg f.regs 1 o.b && okReg f.regs 2 o.c && okNum f o.n
def codeV (b : Bool) : Value := .int .i64 (if b = true then 0 else 1)
/-- the fields as Go's types have them -/
def wfOp (o : OpD) : Prop := (0 ≤ o.kind ∧ o.kind < 256) ∧ (0 ≤ o.cal ∧ o.cal < 256) ∧ (0 ≤ o.a ∧ o.a < 256) ∧ (0 ≤ o.b ∧ o.b < 256) ∧ (0 ≤ o.c ∧ o.c < 256) ∧ (-9223372036854775808 ≤ o.n ∧ o.n ≤ 9223372036854775807)

theorem form_regs {k : Int} {f : Fm} (h : formS k = some f) : f.regs ≤ 3 := by
  have hk := kinds (k := k) (by rw [h]; simp)
  rcases hk with rfl | rfl | rfl | rfl | rfl | rfl | rfl | rfl | rfl | rfl | rfl | rfl | rfl | rfl | rfl <;> simp [formS] at h <;> subst h <;> decide
theorem num_ok {k n : Int} {f : Fm} (h : formS k = some f) (hf : f.n = true) (h1 : -9223372036854775808 ≤ n) (h2 : n ≤ 9223372036854775807) : numS k n = okNum f n := by
  have hk := kinds (k := k) (by rw [h]; simp)
  rcases hk with rfl | rfl | rfl | rfl | rfl | rfl | rfl | rfl | rfl | rfl | rfl | rfl | rfl | rfl | rfl <;> simp [formS] at h <;> subst h <;> simp [fm] at hf <;> simp [numS, okNum, fm, h1, h2]

set_option maxHeartbeats 4000000 in
theorem check_any (w : World) (o : OpD) (hw : wfOp o) : Calls Tryz.prog 140 #[.agg (encOp o).toArray] w fun e w' => e = .returned (codeV (checkS o)) ∧ Below w.heap.size w w' := by
  obtain ⟨kind, cal, a, b, c, n⟩ := o
  obtain ⟨-, ⟨hc0, -⟩, ⟨ha0, -⟩, ⟨hb0, -⟩, ⟨hcc0, -⟩, -⟩ := hw
  simp only at hc0 ha0 hb0 hcc0
  unfold encOp
  go_enter Tryz.func140, Tryz.ntmps140
  go_wp2_with fail
  refine (formOf_any _ _).mono ?_
  rintro e w1 ⟨rfl, hb1⟩
  have hblk := blk hb1 (block_new w _)
  have y0 : ∀ x, (w1.alloc x).cell? ⟨w.heap.size, 0, none⟩ = some (.int .u8 kind) := fun x => cell_of_block (block_alloc hblk) rfl
  have y1 : ∀ x, (w1.alloc x).cell? ⟨w.heap.size, 1, none⟩ = some (.int .u8 cal) := fun x => cell_of_block (block_alloc hblk) rfl
  have y2 : ∀ x, (w1.alloc x).cell? ⟨w.heap.size, 2, none⟩ = some (.int .u8 a) := fun x => cell_of_block (block_alloc hblk) rfl
  have y3 : ∀ x, (w1.alloc x).cell? ⟨w.heap.size, 3, none⟩ = some (.int .u8 b) := fun x => cell_of_block (block_alloc hblk) rfl
  have y4 : ∀ x, (w1.alloc x).cell? ⟨w.heap.size, 4, none⟩ = some (.int .u8 c) := fun x => cell_of_block (block_alloc hblk) rfl
  have y5 : ∀ x, (w1.alloc x).cell? ⟨w.heap.size, 5, none⟩ = some (.int .i64 n) := fun x => cell_of_block (block_alloc hblk) rfl
  have HB1 := hidI (bnextA (Below.refl _ _) hb1)
  have i0 : ∀ w, (Instr.index 238 (.agg #[.int .u8 a, .int .u8 b, .int .u8 c]) (.int .i64 0)).run Tryz.prog w = .ok (.int .u8 a) w := fun _ => by kernel_rfl
  have i1 : ∀ w, (Instr.index 238 (.agg #[.int .u8 a, .int .u8 b, .int .u8 c]) (.int .i64 1)).run Tryz.prog w = .ok (.int .u8 b) w := fun _ => by kernel_rfl
  have i2 : ∀ w, (Instr.index 238 (.agg #[.int .u8 a, .int .u8 b, .int .u8 c]) (.int .i64 2)).run Tryz.prog w = .ok (.int .u8 c) w := fun _ => by kernel_rfl
  clear hb1 hblk
  cases hf : formS kind with
  | none =>
    unfold formV
    have HF := hidI hf
    clear hf
    go_wp2_with fail
    go_ret
    exact ⟨by simp [checkS, HF.out, codeV], HB1.out.alloc HB1.out.size _⟩
  | some f =>
    have hfr := form_regs hf
    obtain ⟨fc, fr, fn, fl, fM⟩ := f
    have HF := hidI hf
    clear hf
    simp only at hfr
    unfold formV encFm
    by_cases hcal : cal = 0
    · subst hcal
      cases fc with
      | true =>
        go_wp2_with fail
        go_ret
        exact ⟨by simp [checkS, HF.out, codeV, *], HB1.out.alloc HB1.out.size _⟩
      | false =>
        rcases (by omega : fr = 0 ∨ fr = 1 ∨ fr = 2 ∨ fr = 3) with rfl | rfl | rfl | rfl
        · go_wp2_with fail
          go_loopw [35] (fun i wr => wr = w1.alloc (.cells #[.bool false, .int .i64 0, .bool fn, .int .i64 fl, .int .i64 fM] 235) ∧ (i = .int .i64 0 ∨ i = .int .i64 1 ∧ okReg 0 0 a = true ∨ i = .int .i64 2 ∧ okReg 0 0 a = true ∧ okReg 0 1 b = true ∨ i = .int .i64 3 ∧ okReg 0 0 a = true ∧ okReg 0 1 b = true ∧ okReg 0 2 c = true)) (fun i _ => (3 - intOf i).toNat)
          case atStart => exact ⟨rfl, .inl rfl⟩
          case round =>
            obtain ⟨rfl, rfl | ⟨rfl, g0⟩ | ⟨rfl, g0, g1⟩ | ⟨rfl, g0, g1, g2⟩⟩ := hrel
            · skip
              by_cases h : a = 0
              · have H : okReg 0 0 a = true := by simp [okReg, h]
                have h' : (a != 0) = false := by simp [h]
                have h'' : (a == 0) = true := by simp [h]
                clear h
                go_wp2_with fail
                exact ⟨⟨trivial, .inr (.inl ⟨rfl, H⟩)⟩, by simp [intOf]⟩
              · have HN : okReg 0 0 a = false := by simp [okReg, h]
                have h' : (a != 0) = true := by simp [h]
                have h'' : (a == 0) = false := by simp [h]
                clear h
                go_wp2_with fail
                go_ret
                exact ⟨by simp [checkS, HF.out, codeV, HN], HB1.out.alloc HB1.out.size _⟩
            · skip
              have G0 := hidI g0
              clear g0
              by_cases h : b = 0
              · have H : okReg 0 1 b = true := by simp [okReg, h]
                have h' : (b != 0) = false := by simp [h]
                have h'' : (b == 0) = true := by simp [h]
                clear h
                go_wp2_with fail
                exact ⟨⟨trivial, .inr (.inr (.inl ⟨rfl, G0.out, H⟩))⟩, by simp [intOf]⟩
              · have HN : okReg 0 1 b = false := by simp [okReg, h]
                have h' : (b != 0) = true := by simp [h]
                have h'' : (b == 0) = false := by simp [h]
                clear h
                go_wp2_with fail
                go_ret
                exact ⟨by simp [checkS, HF.out, codeV, HN], HB1.out.alloc HB1.out.size _⟩
            · skip
              have G0 := hidI g0
              have G1 := hidI g1
              clear g0 g1
              by_cases h : c = 0
              · have H : okReg 0 2 c = true := by simp [okReg, h]
                have h' : (c != 0) = false := by simp [h]
                have h'' : (c == 0) = true := by simp [h]
                clear h
                go_wp2_with fail
                exact ⟨⟨trivial, .inr (.inr (.inr (⟨rfl, G0.out, G1.out, H⟩)))⟩, by simp [intOf]⟩
              · have HN : okReg 0 2 c = false := by simp [okReg, h]
                have h' : (c != 0) = true := by simp [h]
                have h'' : (c == 0) = false := by simp [h]
                clear h
                go_wp2_with fail
                go_ret
                exact ⟨by simp [checkS, HF.out, codeV, HN], HB1.out.alloc HB1.out.size _⟩
            · skip
              have G0 := hidI g0
              have G1 := hidI g1
              have G2 := hidI g2
              clear g0 g1 g2
              cases fn with
              | true =>
                by_cases h1 : n < fl
                · go_wp2_with fail
                  go_ret
                  exact ⟨by simp [checkS, HF.out, codeV, okNum]; omega, HB1.out.alloc HB1.out.size _⟩
                by_cases h2 : n > fM
                · go_wp2_with fail
                  go_ret
                  exact ⟨by simp [checkS, HF.out, codeV, okNum]; omega, HB1.out.alloc HB1.out.size _⟩
                have h3 : fl ≤ n := by omega
                have h4 : n ≤ fM := by omega
                go_wp2_with fail
                go_ret
                exact ⟨by simp [checkS, HF.out, codeV, G0.out, G1.out, G2.out, okNum, *], HB1.out.alloc HB1.out.size _⟩
              | false =>
                by_cases h1 : n = 0
                · subst h1
                  go_wp2_with fail
                  go_ret
                  exact ⟨by simp [checkS, HF.out, codeV, G0.out, G1.out, G2.out, okNum, *], HB1.out.alloc HB1.out.size _⟩
                · have h2 : (n == 0) = false := by simp [h1]
                  have h3 : (n != 0) = true := by simp [h1]
                  go_wp2_with fail
                  go_ret
                  exact ⟨by simp [checkS, HF.out, codeV, okNum, h1], HB1.out.alloc HB1.out.size _⟩
        · go_wp2_with fail
          go_loopw [35] (fun i wr => wr = w1.alloc (.cells #[.bool false, .int .i64 1, .bool fn, .int .i64 fl, .int .i64 fM] 235) ∧ (i = .int .i64 0 ∨ i = .int .i64 1 ∧ okReg 1 0 a = true ∨ i = .int .i64 2 ∧ okReg 1 0 a = true ∧ okReg 1 1 b = true ∨ i = .int .i64 3 ∧ okReg 1 0 a = true ∧ okReg 1 1 b = true ∧ okReg 1 2 c = true)) (fun i _ => (3 - intOf i).toNat)
          case atStart => exact ⟨rfl, .inl rfl⟩
          case round =>
            obtain ⟨rfl, rfl | ⟨rfl, g0⟩ | ⟨rfl, g0, g1⟩ | ⟨rfl, g0, g1, g2⟩⟩ := hrel
            · skip
              by_cases h : a < 8
              · have h' : ¬ a ≥ 8 := by omega
                have H : okReg 1 0 a = true := by simp [okReg, h]
                clear h
                go_wp2_with fail
                exact ⟨⟨trivial, .inr (.inl ⟨rfl, H⟩)⟩, by simp [intOf]⟩
              · have h' : a ≥ 8 := by omega
                have HN : okReg 1 0 a = false := by simp [okReg]; omega
                clear h
                go_wp2_with fail
                go_ret
                exact ⟨by simp [checkS, HF.out, codeV, HN], HB1.out.alloc HB1.out.size _⟩
            · skip
              have G0 := hidI g0
              clear g0
              by_cases h : b = 0
              · have H : okReg 1 1 b = true := by simp [okReg, h]
                have h' : (b != 0) = false := by simp [h]
                have h'' : (b == 0) = true := by simp [h]
                clear h
                go_wp2_with fail
                exact ⟨⟨trivial, .inr (.inr (.inl ⟨rfl, G0.out, H⟩))⟩, by simp [intOf]⟩
              · have HN : okReg 1 1 b = false := by simp [okReg, h]
                have h' : (b != 0) = true := by simp [h]
                have h'' : (b == 0) = false := by simp [h]
                clear h
                go_wp2_with fail
                go_ret
                exact ⟨by simp [checkS, HF.out, codeV, HN], HB1.out.alloc HB1.out.size _⟩
            · skip
              have G0 := hidI g0
              have G1 := hidI g1
              clear g0 g1
              by_cases h : c = 0
              · have H : okReg 1 2 c = true := by simp [okReg, h]
                have h' : (c != 0) = false := by simp [h]
                have h'' : (c == 0) = true := by simp [h]
                clear h
                go_wp2_with fail
                exact ⟨⟨trivial, .inr (.inr (.inr (⟨rfl, G0.out, G1.out, H⟩)))⟩, by simp [intOf]⟩
              · have HN : okReg 1 2 c = false := by simp [okReg, h]
                have h' : (c != 0) = true := by simp [h]
                have h'' : (c == 0) = false := by simp [h]
                clear h
                go_wp2_with fail
                go_ret
                exact ⟨by simp [checkS, HF.out, codeV, HN], HB1.out.alloc HB1.out.size _⟩
            · skip
              have G0 := hidI g0
              have G1 := hidI g1
              have G2 := hidI g2
              clear g0 g1 g2
              cases fn with
              | true =>
                by_cases h1 : n < fl
                · go_wp2_with fail
                  go_ret
                  exact ⟨by simp [checkS, HF.out, codeV, okNum]; omega, HB1.out.alloc HB1.out.size _⟩
                by_cases h2 : n > fM
                · go_wp2_with fail
                  go_ret
                  exact ⟨by simp [checkS, HF.out, codeV, okNum]; omega, HB1.out.alloc HB1.out.size _⟩
                have h3 : fl ≤ n := by omega
                have h4 : n ≤ fM := by omega
                go_wp2_with fail
                go_ret
                exact ⟨by simp [checkS, HF.out, codeV, G0.out, G1.out, G2.out, okNum, *], HB1.out.alloc HB1.out.size _⟩
              | false =>
                by_cases h1 : n = 0
                · subst h1
                  go_wp2_with fail
                  go_ret
                  exact ⟨by simp [checkS, HF.out, codeV, G0.out, G1.out, G2.out, okNum, *], HB1.out.alloc HB1.out.size _⟩
                · have h2 : (n == 0) = false := by simp [h1]
                  have h3 : (n != 0) = true := by simp [h1]
                  go_wp2_with fail
                  go_ret
                  exact ⟨by simp [checkS, HF.out, codeV, okNum, h1], HB1.out.alloc HB1.out.size _⟩
        · go_wp2_with fail
          go_loopw [35] (fun i wr => wr = w1.alloc (.cells #[.bool false, .int .i64 2, .bool fn, .int .i64 fl, .int .i64 fM] 235) ∧ (i = .int .i64 0 ∨ i = .int .i64 1 ∧ okReg 2 0 a = true ∨ i = .int .i64 2 ∧ okReg 2 0 a = true ∧ okReg 2 1 b = true ∨ i = .int .i64 3 ∧ okReg 2 0 a = true ∧ okReg 2 1 b = true ∧ okReg 2 2 c = true)) (fun i _ => (3 - intOf i).toNat)
          case atStart => exact ⟨rfl, .inl rfl⟩
          case round =>
            obtain ⟨rfl, rfl | ⟨rfl, g0⟩ | ⟨rfl, g0, g1⟩ | ⟨rfl, g0, g1, g2⟩⟩ := hrel
            · skip
              by_cases h : a < 8
              · have h' : ¬ a ≥ 8 := by omega
                have H : okReg 2 0 a = true := by simp [okReg, h]
                clear h
                go_wp2_with fail
                exact ⟨⟨trivial, .inr (.inl ⟨rfl, H⟩)⟩, by simp [intOf]⟩
              · have h' : a ≥ 8 := by omega
                have HN : okReg 2 0 a = false := by simp [okReg]; omega
                clear h
                go_wp2_with fail
                go_ret
                exact ⟨by simp [checkS, HF.out, codeV, HN], HB1.out.alloc HB1.out.size _⟩
            · skip
              have G0 := hidI g0
              clear g0
              by_cases h : b < 8
              · have h' : ¬ b ≥ 8 := by omega
                have H : okReg 2 1 b = true := by simp [okReg, h]
                clear h
                go_wp2_with fail
                exact ⟨⟨trivial, .inr (.inr (.inl ⟨rfl, G0.out, H⟩))⟩, by simp [intOf]⟩
              · have h' : b ≥ 8 := by omega
                have HN : okReg 2 1 b = false := by simp [okReg]; omega
                clear h
                go_wp2_with fail
                go_ret
                exact ⟨by simp [checkS, HF.out, codeV, HN], HB1.out.alloc HB1.out.size _⟩
            · skip
              have G0 := hidI g0
              have G1 := hidI g1
              clear g0 g1
              by_cases h : c = 0
              · have H : okReg 2 2 c = true := by simp [okReg, h]
                have h' : (c != 0) = false := by simp [h]
                have h'' : (c == 0) = true := by simp [h]
                clear h
                go_wp2_with fail
                exact ⟨⟨trivial, .inr (.inr (.inr (⟨rfl, G0.out, G1.out, H⟩)))⟩, by simp [intOf]⟩
              · have HN : okReg 2 2 c = false := by simp [okReg, h]
                have h' : (c != 0) = true := by simp [h]
                have h'' : (c == 0) = false := by simp [h]
                clear h
                go_wp2_with fail
                go_ret
                exact ⟨by simp [checkS, HF.out, codeV, HN], HB1.out.alloc HB1.out.size _⟩
            · skip
              have G0 := hidI g0
              have G1 := hidI g1
              have G2 := hidI g2
              clear g0 g1 g2
              cases fn with
              | true =>
                by_cases h1 : n < fl
                · go_wp2_with fail
                  go_ret
                  exact ⟨by simp [checkS, HF.out, codeV, okNum]; omega, HB1.out.alloc HB1.out.size _⟩
                by_cases h2 : n > fM
                · go_wp2_with fail
                  go_ret
                  exact ⟨by simp [checkS, HF.out, codeV, okNum]; omega, HB1.out.alloc HB1.out.size _⟩
                have h3 : fl ≤ n := by omega
                have h4 : n ≤ fM := by omega
                go_wp2_with fail
                go_ret
                exact ⟨by simp [checkS, HF.out, codeV, G0.out, G1.out, G2.out, okNum, *], HB1.out.alloc HB1.out.size _⟩
              | false =>
                by_cases h1 : n = 0
                · subst h1
                  go_wp2_with fail
                  go_ret
                  exact ⟨by simp [checkS, HF.out, codeV, G0.out, G1.out, G2.out, okNum, *], HB1.out.alloc HB1.out.size _⟩
                · have h2 : (n == 0) = false := by simp [h1]
                  have h3 : (n != 0) = true := by simp [h1]
                  go_wp2_with fail
                  go_ret
                  exact ⟨by simp [checkS, HF.out, codeV, okNum, h1], HB1.out.alloc HB1.out.size _⟩
        · go_wp2_with fail
          go_loopw [35] (fun i wr => wr = w1.alloc (.cells #[.bool false, .int .i64 3, .bool fn, .int .i64 fl, .int .i64 fM] 235) ∧ (i = .int .i64 0 ∨ i = .int .i64 1 ∧ okReg 3 0 a = true ∨ i = .int .i64 2 ∧ okReg 3 0 a = true ∧ okReg 3 1 b = true ∨ i = .int .i64 3 ∧ okReg 3 0 a = true ∧ okReg 3 1 b = true ∧ okReg 3 2 c = true)) (fun i _ => (3 - intOf i).toNat)
          case atStart => exact ⟨rfl, .inl rfl⟩
          case round =>
            obtain ⟨rfl, rfl | ⟨rfl, g0⟩ | ⟨rfl, g0, g1⟩ | ⟨rfl, g0, g1, g2⟩⟩ := hrel
            · skip
              by_cases h : a < 8
              · have h' : ¬ a ≥ 8 := by omega
                have H : okReg 3 0 a = true := by simp [okReg, h]
                clear h
                go_wp2_with fail
                exact ⟨⟨trivial, .inr (.inl ⟨rfl, H⟩)⟩, by simp [intOf]⟩
              · have h' : a ≥ 8 := by omega
                have HN : okReg 3 0 a = false := by simp [okReg]; omega
                clear h
                go_wp2_with fail
                go_ret
                exact ⟨by simp [checkS, HF.out, codeV, HN], HB1.out.alloc HB1.out.size _⟩
            · skip
              have G0 := hidI g0
              clear g0
              by_cases h : b < 8
              · have h' : ¬ b ≥ 8 := by omega
                have H : okReg 3 1 b = true := by simp [okReg, h]
                clear h
                go_wp2_with fail
                exact ⟨⟨trivial, .inr (.inr (.inl ⟨rfl, G0.out, H⟩))⟩, by simp [intOf]⟩
              · have h' : b ≥ 8 := by omega
                have HN : okReg 3 1 b = false := by simp [okReg]; omega
                clear h
                go_wp2_with fail
                go_ret
                exact ⟨by simp [checkS, HF.out, codeV, HN], HB1.out.alloc HB1.out.size _⟩
            · skip
              have G0 := hidI g0
              have G1 := hidI g1
              clear g0 g1
              by_cases h : c < 8
              · have h' : ¬ c ≥ 8 := by omega
                have H : okReg 3 2 c = true := by simp [okReg, h]
                clear h
                go_wp2_with fail
                exact ⟨⟨trivial, .inr (.inr (.inr (⟨rfl, G0.out, G1.out, H⟩)))⟩, by simp [intOf]⟩
              · have h' : c ≥ 8 := by omega
                have HN : okReg 3 2 c = false := by simp [okReg]; omega
                clear h
                go_wp2_with fail
                go_ret
                exact ⟨by simp [checkS, HF.out, codeV, HN], HB1.out.alloc HB1.out.size _⟩
            · skip
              have G0 := hidI g0
              have G1 := hidI g1
              have G2 := hidI g2
              clear g0 g1 g2
              cases fn with
              | true =>
                by_cases h1 : n < fl
                · go_wp2_with fail
                  go_ret
                  exact ⟨by simp [checkS, HF.out, codeV, okNum]; omega, HB1.out.alloc HB1.out.size _⟩
                by_cases h2 : n > fM
                · go_wp2_with fail
                  go_ret
                  exact ⟨by simp [checkS, HF.out, codeV, okNum]; omega, HB1.out.alloc HB1.out.size _⟩
                have h3 : fl ≤ n := by omega
                have h4 : n ≤ fM := by omega
                go_wp2_with fail
                go_ret
                exact ⟨by simp [checkS, HF.out, codeV, G0.out, G1.out, G2.out, okNum, *], HB1.out.alloc HB1.out.size _⟩
              | false =>
                by_cases h1 : n = 0
                · subst h1
                  go_wp2_with fail
                  go_ret
                  exact ⟨by simp [checkS, HF.out, codeV, G0.out, G1.out, G2.out, okNum, *], HB1.out.alloc HB1.out.size _⟩
                · have h2 : (n == 0) = false := by simp [h1]
                  have h3 : (n != 0) = true := by simp [h1]
                  go_wp2_with fail
                  go_ret
                  exact ⟨by simp [checkS, HF.out, codeV, okNum, h1], HB1.out.alloc HB1.out.size _⟩
    · have e1 : (cal == 0) = false := by simp [hcal]
      have e2 : (cal != 0) = true := by simp [hcal]
      cases fc with
      | false =>
        go_wp2_with fail
        go_ret
        exact ⟨by simp [checkS, HF.out, codeV, *], HB1.out.alloc HB1.out.size _⟩
      | true =>
        by_cases h14 : cal > 14
        · go_wp2_with fail
          go_ret
          exact ⟨by simp [checkS, HF.out, codeV]; omega, HB1.out.alloc HB1.out.size _⟩
        have h15 : cal ≤ 14 := by omega
        rcases (by omega : fr = 0 ∨ fr = 1 ∨ fr = 2 ∨ fr = 3) with rfl | rfl | rfl | rfl
        · go_wp2_with fail
          go_loopw [35] (fun i wr => wr = w1.alloc (.cells #[.bool true, .int .i64 0, .bool fn, .int .i64 fl, .int .i64 fM] 235) ∧ (i = .int .i64 0 ∨ i = .int .i64 1 ∧ okReg 0 0 a = true ∨ i = .int .i64 2 ∧ okReg 0 0 a = true ∧ okReg 0 1 b = true ∨ i = .int .i64 3 ∧ okReg 0 0 a = true ∧ okReg 0 1 b = true ∧ okReg 0 2 c = true)) (fun i _ => (3 - intOf i).toNat)
          case atStart => exact ⟨rfl, .inl rfl⟩
          case round =>
            obtain ⟨rfl, rfl | ⟨rfl, g0⟩ | ⟨rfl, g0, g1⟩ | ⟨rfl, g0, g1, g2⟩⟩ := hrel
            · skip
              by_cases h : a = 0
              · have H : okReg 0 0 a = true := by simp [okReg, h]
                have h' : (a != 0) = false := by simp [h]
                have h'' : (a == 0) = true := by simp [h]
                clear h
                go_wp2_with fail
                exact ⟨⟨trivial, .inr (.inl ⟨rfl, H⟩)⟩, by simp [intOf]⟩
              · have HN : okReg 0 0 a = false := by simp [okReg, h]
                have h' : (a != 0) = true := by simp [h]
                have h'' : (a == 0) = false := by simp [h]
                clear h
                go_wp2_with fail
                go_ret
                exact ⟨by simp [checkS, HF.out, codeV, HN], HB1.out.alloc HB1.out.size _⟩
            · skip
              have G0 := hidI g0
              clear g0
              by_cases h : b = 0
              · have H : okReg 0 1 b = true := by simp [okReg, h]
                have h' : (b != 0) = false := by simp [h]
                have h'' : (b == 0) = true := by simp [h]
                clear h
                go_wp2_with fail
                exact ⟨⟨trivial, .inr (.inr (.inl ⟨rfl, G0.out, H⟩))⟩, by simp [intOf]⟩
              · have HN : okReg 0 1 b = false := by simp [okReg, h]
                have h' : (b != 0) = true := by simp [h]
                have h'' : (b == 0) = false := by simp [h]
                clear h
                go_wp2_with fail
                go_ret
                exact ⟨by simp [checkS, HF.out, codeV, HN], HB1.out.alloc HB1.out.size _⟩
            · skip
              have G0 := hidI g0
              have G1 := hidI g1
              clear g0 g1
              by_cases h : c = 0
              · have H : okReg 0 2 c = true := by simp [okReg, h]
                have h' : (c != 0) = false := by simp [h]
                have h'' : (c == 0) = true := by simp [h]
                clear h
                go_wp2_with fail
                exact ⟨⟨trivial, .inr (.inr (.inr (⟨rfl, G0.out, G1.out, H⟩)))⟩, by simp [intOf]⟩
              · have HN : okReg 0 2 c = false := by simp [okReg, h]
                have h' : (c != 0) = true := by simp [h]
                have h'' : (c == 0) = false := by simp [h]
                clear h
                go_wp2_with fail
                go_ret
                exact ⟨by simp [checkS, HF.out, codeV, HN], HB1.out.alloc HB1.out.size _⟩
            · skip
              have G0 := hidI g0
              have G1 := hidI g1
              have G2 := hidI g2
              clear g0 g1 g2
              cases fn with
              | true =>
                by_cases h1 : n < fl
                · go_wp2_with fail
                  go_ret
                  exact ⟨by simp [checkS, HF.out, codeV, okNum]; omega, HB1.out.alloc HB1.out.size _⟩
                by_cases h2 : n > fM
                · go_wp2_with fail
                  go_ret
                  exact ⟨by simp [checkS, HF.out, codeV, okNum]; omega, HB1.out.alloc HB1.out.size _⟩
                have h3 : fl ≤ n := by omega
                have h4 : n ≤ fM := by omega
                go_wp2_with fail
                go_ret
                exact ⟨by simp [checkS, HF.out, codeV, G0.out, G1.out, G2.out, okNum, *], HB1.out.alloc HB1.out.size _⟩
              | false =>
                by_cases h1 : n = 0
                · subst h1
                  go_wp2_with fail
                  go_ret
                  exact ⟨by simp [checkS, HF.out, codeV, G0.out, G1.out, G2.out, okNum, *], HB1.out.alloc HB1.out.size _⟩
                · have h2 : (n == 0) = false := by simp [h1]
                  have h3 : (n != 0) = true := by simp [h1]
                  go_wp2_with fail
                  go_ret
                  exact ⟨by simp [checkS, HF.out, codeV, okNum, h1], HB1.out.alloc HB1.out.size _⟩
        · go_wp2_with fail
          go_loopw [35] (fun i wr => wr = w1.alloc (.cells #[.bool true, .int .i64 1, .bool fn, .int .i64 fl, .int .i64 fM] 235) ∧ (i = .int .i64 0 ∨ i = .int .i64 1 ∧ okReg 1 0 a = true ∨ i = .int .i64 2 ∧ okReg 1 0 a = true ∧ okReg 1 1 b = true ∨ i = .int .i64 3 ∧ okReg 1 0 a = true ∧ okReg 1 1 b = true ∧ okReg 1 2 c = true)) (fun i _ => (3 - intOf i).toNat)
          case atStart => exact ⟨rfl, .inl rfl⟩
          case round =>
            obtain ⟨rfl, rfl | ⟨rfl, g0⟩ | ⟨rfl, g0, g1⟩ | ⟨rfl, g0, g1, g2⟩⟩ := hrel
            · skip
              by_cases h : a < 8
              · have h' : ¬ a ≥ 8 := by omega
                have H : okReg 1 0 a = true := by simp [okReg, h]
                clear h
                go_wp2_with fail
                exact ⟨⟨trivial, .inr (.inl ⟨rfl, H⟩)⟩, by simp [intOf]⟩
              · have h' : a ≥ 8 := by omega
                have HN : okReg 1 0 a = false := by simp [okReg]; omega
                clear h
                go_wp2_with fail
                go_ret
                exact ⟨by simp [checkS, HF.out, codeV, HN], HB1.out.alloc HB1.out.size _⟩
            · skip
              have G0 := hidI g0
              clear g0
              by_cases h : b = 0
              · have H : okReg 1 1 b = true := by simp [okReg, h]
                have h' : (b != 0) = false := by simp [h]
                have h'' : (b == 0) = true := by simp [h]
                clear h
                go_wp2_with fail
                exact ⟨⟨trivial, .inr (.inr (.inl ⟨rfl, G0.out, H⟩))⟩, by simp [intOf]⟩
              · have HN : okReg 1 1 b = false := by simp [okReg, h]
                have h' : (b != 0) = true := by simp [h]
                have h'' : (b == 0) = false := by simp [h]
                clear h
                go_wp2_with fail
                go_ret
                exact ⟨by simp [checkS, HF.out, codeV, HN], HB1.out.alloc HB1.out.size _⟩
            · skip
              have G0 := hidI g0
              have G1 := hidI g1
              clear g0 g1
              by_cases h : c = 0
              · have H : okReg 1 2 c = true := by simp [okReg, h]
                have h' : (c != 0) = false := by simp [h]
                have h'' : (c == 0) = true := by simp [h]
                clear h
                go_wp2_with fail
                exact ⟨⟨trivial, .inr (.inr (.inr (⟨rfl, G0.out, G1.out, H⟩)))⟩, by simp [intOf]⟩
              · have HN : okReg 1 2 c = false := by simp [okReg, h]
                have h' : (c != 0) = true := by simp [h]
                have h'' : (c == 0) = false := by simp [h]
                clear h
                go_wp2_with fail
                go_ret
                exact ⟨by simp [checkS, HF.out, codeV, HN], HB1.out.alloc HB1.out.size _⟩
            · skip
              have G0 := hidI g0
              have G1 := hidI g1
              have G2 := hidI g2
              clear g0 g1 g2
              cases fn with
              | true =>
                by_cases h1 : n < fl
                · go_wp2_with fail
                  go_ret
                  exact ⟨by simp [checkS, HF.out, codeV, okNum]; omega, HB1.out.alloc HB1.out.size _⟩
                by_cases h2 : n > fM
                · go_wp2_with fail
                  go_ret
                  exact ⟨by simp [checkS, HF.out, codeV, okNum]; omega, HB1.out.alloc HB1.out.size _⟩
                have h3 : fl ≤ n := by omega
                have h4 : n ≤ fM := by omega
                go_wp2_with fail
                go_ret
                exact ⟨by simp [checkS, HF.out, codeV, G0.out, G1.out, G2.out, okNum, *], HB1.out.alloc HB1.out.size _⟩
              | false =>
                by_cases h1 : n = 0
                · subst h1
                  go_wp2_with fail
                  go_ret
                  exact ⟨by simp [checkS, HF.out, codeV, G0.out, G1.out, G2.out, okNum, *], HB1.out.alloc HB1.out.size _⟩
                · have h2 : (n == 0) = false := by simp [h1]
                  have h3 : (n != 0) = true := by simp [h1]
                  go_wp2_with fail
                  go_ret
                  exact ⟨by simp [checkS, HF.out, codeV, okNum, h1], HB1.out.alloc HB1.out.size _⟩
        · go_wp2_with fail
          go_loopw [35] (fun i wr => wr = w1.alloc (.cells #[.bool true, .int .i64 2, .bool fn, .int .i64 fl, .int .i64 fM] 235) ∧ (i = .int .i64 0 ∨ i = .int .i64 1 ∧ okReg 2 0 a = true ∨ i = .int .i64 2 ∧ okReg 2 0 a = true ∧ okReg 2 1 b = true ∨ i = .int .i64 3 ∧ okReg 2 0 a = true ∧ okReg 2 1 b = true ∧ okReg 2 2 c = true)) (fun i _ => (3 - intOf i).toNat)
          case atStart => exact ⟨rfl, .inl rfl⟩
          case round =>
            obtain ⟨rfl, rfl | ⟨rfl, g0⟩ | ⟨rfl, g0, g1⟩ | ⟨rfl, g0, g1, g2⟩⟩ := hrel
            · skip
              by_cases h : a < 8
              · have h' : ¬ a ≥ 8 := by omega
                have H : okReg 2 0 a = true := by simp [okReg, h]
                clear h
                go_wp2_with fail
                exact ⟨⟨trivial, .inr (.inl ⟨rfl, H⟩)⟩, by simp [intOf]⟩
              · have h' : a ≥ 8 := by omega
                have HN : okReg 2 0 a = false := by simp [okReg]; omega
                clear h
                go_wp2_with fail
                go_ret
                exact ⟨by simp [checkS, HF.out, codeV, HN], HB1.out.alloc HB1.out.size _⟩
            · skip
              have G0 := hidI g0
              clear g0
              by_cases h : b < 8
              · have h' : ¬ b ≥ 8 := by omega
                have H : okReg 2 1 b = true := by simp [okReg, h]
                clear h
                go_wp2_with fail
                exact ⟨⟨trivial, .inr (.inr (.inl ⟨rfl, G0.out, H⟩))⟩, by simp [intOf]⟩
              · have h' : b ≥ 8 := by omega
                have HN : okReg 2 1 b = false := by simp [okReg]; omega
                clear h
                go_wp2_with fail
                go_ret
                exact ⟨by simp [checkS, HF.out, codeV, HN], HB1.out.alloc HB1.out.size _⟩
            · skip
              have G0 := hidI g0
              have G1 := hidI g1
              clear g0 g1
              by_cases h : c = 0
              · have H : okReg 2 2 c = true := by simp [okReg, h]
                have h' : (c != 0) = false := by simp [h]
                have h'' : (c == 0) = true := by simp [h]
                clear h
                go_wp2_with fail
                exact ⟨⟨trivial, .inr (.inr (.inr (⟨rfl, G0.out, G1.out, H⟩)))⟩, by simp [intOf]⟩
              · have HN : okReg 2 2 c = false := by simp [okReg, h]
                have h' : (c != 0) = true := by simp [h]
                have h'' : (c == 0) = false := by simp [h]
                clear h
                go_wp2_with fail
                go_ret
                exact ⟨by simp [checkS, HF.out, codeV, HN], HB1.out.alloc HB1.out.size _⟩
            · skip
              have G0 := hidI g0
              have G1 := hidI g1
              have G2 := hidI g2
              clear g0 g1 g2
              cases fn with
              | true =>
                by_cases h1 : n < fl
                · go_wp2_with fail
                  go_ret
                  exact ⟨by simp [checkS, HF.out, codeV, okNum]; omega, HB1.out.alloc HB1.out.size _⟩
                by_cases h2 : n > fM
                · go_wp2_with fail
                  go_ret
                  exact ⟨by simp [checkS, HF.out, codeV, okNum]; omega, HB1.out.alloc HB1.out.size _⟩
                have h3 : fl ≤ n := by omega
                have h4 : n ≤ fM := by omega
                go_wp2_with fail
                go_ret
                exact ⟨by simp [checkS, HF.out, codeV, G0.out, G1.out, G2.out, okNum, *], HB1.out.alloc HB1.out.size _⟩
              | false =>
                by_cases h1 : n = 0
                · subst h1
                  go_wp2_with fail
                  go_ret
                  exact ⟨by simp [checkS, HF.out, codeV, G0.out, G1.out, G2.out, okNum, *], HB1.out.alloc HB1.out.size _⟩
                · have h2 : (n == 0) = false := by simp [h1]
                  have h3 : (n != 0) = true := by simp [h1]
                  go_wp2_with fail
                  go_ret
                  exact ⟨by simp [checkS, HF.out, codeV, okNum, h1], HB1.out.alloc HB1.out.size _⟩
        · go_wp2_with fail
          go_loopw [35] (fun i wr => wr = w1.alloc (.cells #[.bool true, .int .i64 3, .bool fn, .int .i64 fl, .int .i64 fM] 235) ∧ (i = .int .i64 0 ∨ i = .int .i64 1 ∧ okReg 3 0 a = true ∨ i = .int .i64 2 ∧ okReg 3 0 a = true ∧ okReg 3 1 b = true ∨ i = .int .i64 3 ∧ okReg 3 0 a = true ∧ okReg 3 1 b = true ∧ okReg 3 2 c = true)) (fun i _ => (3 - intOf i).toNat)
          case atStart => exact ⟨rfl, .inl rfl⟩
          case round =>
            obtain ⟨rfl, rfl | ⟨rfl, g0⟩ | ⟨rfl, g0, g1⟩ | ⟨rfl, g0, g1, g2⟩⟩ := hrel
            · skip
              by_cases h : a < 8
              · have h' : ¬ a ≥ 8 := by omega
                have H : okReg 3 0 a = true := by simp [okReg, h]
                clear h
                go_wp2_with fail
                exact ⟨⟨trivial, .inr (.inl ⟨rfl, H⟩)⟩, by simp [intOf]⟩
              · have h' : a ≥ 8 := by omega
                have HN : okReg 3 0 a = false := by simp [okReg]; omega
                clear h
                go_wp2_with fail
                go_ret
                exact ⟨by simp [checkS, HF.out, codeV, HN], HB1.out.alloc HB1.out.size _⟩
            · skip
              have G0 := hidI g0
              clear g0
              by_cases h : b < 8
              · have h' : ¬ b ≥ 8 := by omega
                have H : okReg 3 1 b = true := by simp [okReg, h]
                clear h
                go_wp2_with fail
                exact ⟨⟨trivial, .inr (.inr (.inl ⟨rfl, G0.out, H⟩))⟩, by simp [intOf]⟩
              · have h' : b ≥ 8 := by omega
                have HN : okReg 3 1 b = false := by simp [okReg]; omega
                clear h
                go_wp2_with fail
                go_ret
                exact ⟨by simp [checkS, HF.out, codeV, HN], HB1.out.alloc HB1.out.size _⟩
            · skip
              have G0 := hidI g0
              have G1 := hidI g1
              clear g0 g1
              by_cases h : c < 8
              · have h' : ¬ c ≥ 8 := by omega
                have H : okReg 3 2 c = true := by simp [okReg, h]
                clear h
                go_wp2_with fail
                exact ⟨⟨trivial, .inr (.inr (.inr (⟨rfl, G0.out, G1.out, H⟩)))⟩, by simp [intOf]⟩
              · have h' : c ≥ 8 := by omega
                have HN : okReg 3 2 c = false := by simp [okReg]; omega
                clear h
                go_wp2_with fail
                go_ret
                exact ⟨by simp [checkS, HF.out, codeV, HN], HB1.out.alloc HB1.out.size _⟩
            · skip
              have G0 := hidI g0
              have G1 := hidI g1
              have G2 := hidI g2
              clear g0 g1 g2
              cases fn with
              | true =>
                by_cases h1 : n < fl
                · go_wp2_with fail
                  go_ret
                  exact ⟨by simp [checkS, HF.out, codeV, okNum]; omega, HB1.out.alloc HB1.out.size _⟩
                by_cases h2 : n > fM
                · go_wp2_with fail
                  go_ret
                  exact ⟨by simp [checkS, HF.out, codeV, okNum]; omega, HB1.out.alloc HB1.out.size _⟩
                have h3 : fl ≤ n := by omega
                have h4 : n ≤ fM := by omega
                go_wp2_with fail
                go_ret
                exact ⟨by simp [checkS, HF.out, codeV, G0.out, G1.out, G2.out, okNum, *], HB1.out.alloc HB1.out.size _⟩
              | false =>
                by_cases h1 : n = 0
                · subst h1
                  go_wp2_with fail
                  go_ret
                  exact ⟨by simp [checkS, HF.out, codeV, G0.out, G1.out, G2.out, okNum, *], HB1.out.alloc HB1.out.size _⟩
                · have h2 : (n == 0) = false := by simp [h1]
                  have h3 : (n != 0) = true := by simp [h1]
                  go_wp2_with fail
                  go_ret
                  exact ⟨by simp [checkS, HF.out, codeV, okNum, h1], HB1.out.alloc HB1.out.size _⟩
end Go.Proofs.YtopdcjimpdalpaaGreat

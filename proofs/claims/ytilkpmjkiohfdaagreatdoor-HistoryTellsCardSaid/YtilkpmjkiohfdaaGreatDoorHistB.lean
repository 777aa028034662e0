/- The contract of (*thread).take: events that may not be. -/
import Derived.Test.YtilkpmjkiohfdaaGreatDoorHistA
namespace Go.Proofs.YtilkpmjkiohfdaaGreatDoor
set_option linter.unusedVariables false
set_option linter.unusedSimpArgs false
open Go.RowKit

def evAgg (x : Ev) : Value := .agg #[.int .i64 x.th, .int .u8 x.k, .int .i64 x.a, .int .i64 x.b]

/-- the post of an event that may not be -/
def TakeNo (w : World) (e : Ending) (w' : World) : Prop := e = .returned (.tuple #[.pointer none, .bool false]) ∧ Below w.heap.size w w'

set_option maxHeartbeats 1000000 in
theorem take_ended {w : World} {bt o : Nat} {T : TypeId} {tc : Array Value} (x : Ev) (at_ : Int)
    (hb : w.heap[bt]? = some (.cells tc T (0, 0))) (he : tc[o + 1]? = some (.bool true)) :
    Calls Tryz.prog 139 #[.pointer (some ⟨bt, o, none⟩), evAgg x, .int .i64 at_] w (TakeNo w) := by
  have de : (w.alloc (.cells #[.int .i64 x.th, .int .u8 x.k, .int .i64 x.a, .int .i64 x.b] 126)).cell? ⟨bt, o + 1, none⟩ = some (.bool true) := cell_of_block (block_alloc hb) he
  have fe : (w.alloc (.cells #[.int .i64 x.th, .int .u8 x.k, .int .i64 x.a, .int .i64 x.b] 126)).frozen? ⟨bt, o + 1, none⟩ = false := free_of_block (block_alloc hb)
  clear hb he
  obtain ⟨th, k, a, b⟩ := x
  unfold evAgg
  skip
  go_enter Tryz.func139, Tryz.ntmps139
  go_wp2_with fail
  all_goals go_ret2
  all_goals exact ⟨rfl, (Below.refl _ _).alloc (Nat.le_refl _) _⟩

set_option maxHeartbeats 2000000 in
theorem take_out_no {w : World} {bt o : Nat} {T : TypeId} {tc : Array Value} (x : Ev) (at_ : Int)
    (hb : w.heap[bt]? = some (.cells tc T (0, 0))) (he : tc[o + 1]? = some (.bool false)) (ho : tc[o]? = some (.pointer none)) (hk : ¬ (x.k = 1 ∨ 9 ≤ x.k ∧ x.k ≤ 11)) :
    Calls Tryz.prog 139 #[.pointer (some ⟨bt, o, none⟩), evAgg x, .int .i64 at_] w (TakeNo w) := by
  have de : (w.alloc (.cells #[.int .i64 x.th, .int .u8 x.k, .int .i64 x.a, .int .i64 x.b] 126)).cell? ⟨bt, o + 1, none⟩ = some (.bool false) := cell_of_block (block_alloc hb) he
  have fe : (w.alloc (.cells #[.int .i64 x.th, .int .u8 x.k, .int .i64 x.a, .int .i64 x.b] 126)).frozen? ⟨bt, o + 1, none⟩ = false := free_of_block (block_alloc hb)
  have dp : (w.alloc (.cells #[.int .i64 x.th, .int .u8 x.k, .int .i64 x.a, .int .i64 x.b] 126)).cell? ⟨bt, o, none⟩ = some (.pointer none) := cell_of_block (block_alloc hb) ho
  have fo : (w.alloc (.cells #[.int .i64 x.th, .int .u8 x.k, .int .i64 x.a, .int .i64 x.b] 126)).frozen? ⟨bt, o, none⟩ = false := free_of_block (block_alloc hb)
  clear hb he ho
  obtain ⟨th, k, a, b⟩ := x
  unfold evAgg
  simp only at hk
  have kk : (k != 11) = true := by simp; omega
  rcases (by omega : k < 2 ∨ (2 ≤ k ∧ k ≤ 8) ∨ 11 < k) with h | ⟨h, h'⟩ | h
  · have k1 : (k == 1) = false := by simp; omega
    have k2 : (k == 2) = false := by simp; omega
    have k3 : (k == 3) = false := by simp; omega
    have k4 : (k == 4) = false := by simp; omega
    have k5 : (k == 5) = false := by simp; omega
    have k6 : (k == 6) = false := by simp; omega
    have k7 : (k == 7) = false := by simp; omega
    have k8 : (k == 8) = false := by simp; omega
    have k9 : (k == 9) = false := by simp; omega
    have k10 : (k == 10) = false := by simp; omega
    have k11 : (k == 11) = false := by simp; omega
    have h9 : k ≤ 8 := by omega
    go_enter Tryz.func139, Tryz.ntmps139
    go_wp2_with fail
    all_goals go_ret2
    all_goals exact ⟨rfl, (Below.refl _ _).alloc (Nat.le_refl _) _⟩
  · go_enter Tryz.func139, Tryz.ntmps139
    go_wp2_with fail
    all_goals go_ret2
    all_goals exact ⟨rfl, (Below.refl _ _).alloc (Nat.le_refl _) _⟩
  · have k1 : (k == 1) = false := by simp; omega
    have k2 : (k == 2) = false := by simp; omega
    have k3 : (k == 3) = false := by simp; omega
    have k4 : (k == 4) = false := by simp; omega
    have k5 : (k == 5) = false := by simp; omega
    have k6 : (k == 6) = false := by simp; omega
    have k7 : (k == 7) = false := by simp; omega
    have k8 : (k == 8) = false := by simp; omega
    have k9 : (k == 9) = false := by simp; omega
    have k10 : (k == 10) = false := by simp; omega
    have k11 : (k == 11) = false := by simp; omega
    have h9 : ¬ k ≤ 8 := by omega
    have h9' : 8 < k := by omega
    have h8 : 2 ≤ k := by omega
    go_enter Tryz.func139, Tryz.ntmps139
    go_wp2_with fail
    all_goals go_ret2
    all_goals exact ⟨rfl, (Below.refl _ _).alloc (Nat.le_refl _) _⟩

set_option maxHeartbeats 2000000 in
theorem take_in_no {w : World} {bt o : Nat} {T : TypeId} {tc : Array Value} (x : Ev) (at_ : Int)
    (hb : w.heap[bt]? = some (.cells tc T (0, 0))) (he : tc[o + 1]? = some (.bool false)) {g : Nat} (ho : tc[o]? = some (.pointer (some ⟨g, 0, none⟩))) (hk : ¬ (2 ≤ x.k ∧ x.k ≤ 8)) (hk' : x.k ≠ 11) :
    Calls Tryz.prog 139 #[.pointer (some ⟨bt, o, none⟩), evAgg x, .int .i64 at_] w (TakeNo w) := by
  have de : (w.alloc (.cells #[.int .i64 x.th, .int .u8 x.k, .int .i64 x.a, .int .i64 x.b] 126)).cell? ⟨bt, o + 1, none⟩ = some (.bool false) := cell_of_block (block_alloc hb) he
  have fe : (w.alloc (.cells #[.int .i64 x.th, .int .u8 x.k, .int .i64 x.a, .int .i64 x.b] 126)).frozen? ⟨bt, o + 1, none⟩ = false := free_of_block (block_alloc hb)
  have dp : (w.alloc (.cells #[.int .i64 x.th, .int .u8 x.k, .int .i64 x.a, .int .i64 x.b] 126)).cell? ⟨bt, o, none⟩ = some (.pointer (some ⟨g, 0, none⟩)) := cell_of_block (block_alloc hb) ho
  have fo : (w.alloc (.cells #[.int .i64 x.th, .int .u8 x.k, .int .i64 x.a, .int .i64 x.b] 126)).frozen? ⟨bt, o, none⟩ = false := free_of_block (block_alloc hb)
  clear hb he ho
  obtain ⟨th, k, a, b⟩ := x
  unfold evAgg
  simp only at hk hk'
  have kk : (k != 11) = true := by simp; omega
  rcases (by omega : k < 2 ∨ 8 < k) with h | h
  · have h9 : k ≤ 8 := by omega
    have h9' : (!decide (k ≤ 8)) = false := by simp; omega
    go_enter Tryz.func139, Tryz.ntmps139
    go_wp2_with fail
    all_goals go_ret2
    all_goals exact ⟨rfl, (Below.refl _ _).alloc (Nat.le_refl _) _⟩
  · have h9 : ¬ k ≤ 8 := by omega
    have h2 : 2 ≤ k := by omega
    have h9' : decide (k ≤ 8) = false := by simp; omega
    go_enter Tryz.func139, Tryz.ntmps139
    go_wp2_with fail
    all_goals go_ret2
    all_goals exact ⟨rfl, (Below.refl _ _).alloc (Nat.le_refl _) _⟩

end Go.Proofs.YtilkpmjkiohfdaaGreatDoor

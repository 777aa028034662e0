/- Part of the proof: BookE, BookTxOp, TwinTxO -/
import Derived.Test.YtgodmogkhgilmaaGreatDoorP24
import Derived.Deep.MidRow
import Derived.Deep.CutRange
import Derived.Deep.RegionHeld3
namespace Go.Proofs.YtgodmogkhgilmaaGreatDoor
open Go.RowKit
set_option linter.unusedVariables false
set_option linter.unusedSimpArgs false
set_option maxHeartbeats 2000000
set_option maxRecDepth 100000
section
variable {w : World} {kb : Nat} {C : Array Value}
theorem fillNumber_no (hb : w.heap[kb]? = some (.cells C 67 (0, 0))) (hc : C[2]? = some (.slice none 0 0)) : Calls Tryz.prog 32 #[.pointer (some ⟨kb, 0, none⟩)] w fun e w' => e = .returned (.tuple #[]) ∧ w' = w := by
  have c := cell_of_block hb hc
  clear hb hc
  go_enter Tryz.func32, Tryz.ntmps32
  go_wp2_with fail
  go_loopw [10] (fun i w' => i = .int .i64 0 ∧ w' = w) (fun _ _ => 0)
  case atStart => exact ⟨rfl, rfl⟩
  case round =>
    obtain ⟨rfl, rfl⟩ := hrel
    go_wp2_with fail
    go_end0
    exact ⟨rfl, rfl⟩
theorem growNumber_no (hb : w.heap[kb]? = some (.cells C 67 (0, 0))) (hc : C[2]? = some (.slice none 0 0)) : Calls Tryz.prog 58 #[.pointer (some ⟨kb, 0, none⟩)] w fun e w' => e = .returned (.tuple #[]) ∧ w' = w := by
  have c := cell_of_block hb hc
  clear hb hc
  go_enter Tryz.func58, Tryz.ntmps58
  go_wp2_with fail
  go_loopw [10] (fun i w' => i = .int .i64 0 ∧ w' = w) (fun _ _ => 0)
  case atStart => exact ⟨rfl, rfl⟩
  case round =>
    obtain ⟨rfl, rfl⟩ := hrel
    go_wp2_with fail
    go_end0
    exact ⟨rfl, rfl⟩
theorem lookNumber_no (hb : w.heap[kb]? = some (.cells C 67 (0, 0))) (hc : C[2]? = some (.slice none 0 0)) : Calls Tryz.prog 85 #[.pointer (some ⟨kb, 0, none⟩)] w fun e w' => e = .returned (.bool true) ∧ w' = w := by
  have c := cell_of_block hb hc
  clear hb hc
  go_enter Tryz.func85, Tryz.ntmps85
  go_wp2_with fail
  go_loopw [12] (fun i w' => i = .int .i64 0 ∧ w' = w) (fun _ _ => 0)
  case atStart => exact ⟨rfl, rfl⟩
  case round =>
    obtain ⟨rfl, rfl⟩ := hrel
    go_wp2_with fail
    go_ret
    exact ⟨rfl, rfl⟩
theorem fillWide_no (hb : w.heap[kb]? = some (.cells C 67 (0, 0))) (hc : C[3]? = some (.slice none 0 0)) : Calls Tryz.prog 33 #[.pointer (some ⟨kb, 0, none⟩)] w fun e w' => e = .returned (.tuple #[]) ∧ w' = w := by
  have c := cell_of_block hb hc
  clear hb hc
  go_enter Tryz.func33, Tryz.ntmps33
  go_wp2_with fail
  go_loopw [10] (fun i w' => i = .int .i64 0 ∧ w' = w) (fun _ _ => 0)
  case atStart => exact ⟨rfl, rfl⟩
  case round =>
    obtain ⟨rfl, rfl⟩ := hrel
    go_wp2_with fail
    go_end0
    exact ⟨rfl, rfl⟩
theorem growWide_no (hb : w.heap[kb]? = some (.cells C 67 (0, 0))) (hc : C[3]? = some (.slice none 0 0)) : Calls Tryz.prog 59 #[.pointer (some ⟨kb, 0, none⟩)] w fun e w' => e = .returned (.tuple #[]) ∧ w' = w := by
  have c := cell_of_block hb hc
  clear hb hc
  go_enter Tryz.func59, Tryz.ntmps59
  go_wp2_with fail
  go_loopw [10] (fun i w' => i = .int .i64 0 ∧ w' = w) (fun _ _ => 0)
  case atStart => exact ⟨rfl, rfl⟩
  case round =>
    obtain ⟨rfl, rfl⟩ := hrel
    go_wp2_with fail
    go_end0
    exact ⟨rfl, rfl⟩
theorem lookWide_no (hb : w.heap[kb]? = some (.cells C 67 (0, 0))) (hc : C[3]? = some (.slice none 0 0)) : Calls Tryz.prog 86 #[.pointer (some ⟨kb, 0, none⟩)] w fun e w' => e = .returned (.bool true) ∧ w' = w := by
  have c := cell_of_block hb hc
  clear hb hc
  go_enter Tryz.func86, Tryz.ntmps86
  go_wp2_with fail
  go_loopw [12] (fun i w' => i = .int .i64 0 ∧ w' = w) (fun _ _ => 0)
  case atStart => exact ⟨rfl, rfl⟩
  case round =>
    obtain ⟨rfl, rfl⟩ := hrel
    go_wp2_with fail
    go_ret
    exact ⟨rfl, rfl⟩
theorem fillText_no (hb : w.heap[kb]? = some (.cells C 67 (0, 0))) (hc : C[4]? = some (.slice none 0 0)) : Calls Tryz.prog 34 #[.pointer (some ⟨kb, 0, none⟩)] w fun e w' => e = .returned (.tuple #[]) ∧ w' = w := by
  have c := cell_of_block hb hc
  clear hb hc
  go_enter Tryz.func34, Tryz.ntmps34
  go_wp2_with fail
  go_loopw [10] (fun i w' => i = .int .i64 0 ∧ w' = w) (fun _ _ => 0)
  case atStart => exact ⟨rfl, rfl⟩
  case round =>
    obtain ⟨rfl, rfl⟩ := hrel
    go_wp2_with fail
    go_end0
    exact ⟨rfl, rfl⟩
theorem growText_no (hb : w.heap[kb]? = some (.cells C 67 (0, 0))) (hc : C[4]? = some (.slice none 0 0)) : Calls Tryz.prog 60 #[.pointer (some ⟨kb, 0, none⟩)] w fun e w' => e = .returned (.tuple #[]) ∧ w' = w := by
  have c := cell_of_block hb hc
  clear hb hc
  go_enter Tryz.func60, Tryz.ntmps60
  go_wp2_with fail
  go_loopw [10] (fun i w' => i = .int .i64 0 ∧ w' = w) (fun _ _ => 0)
  case atStart => exact ⟨rfl, rfl⟩
  case round =>
    obtain ⟨rfl, rfl⟩ := hrel
    go_wp2_with fail
    go_end0
    exact ⟨rfl, rfl⟩
theorem lookText_no (hb : w.heap[kb]? = some (.cells C 67 (0, 0))) (hc : C[4]? = some (.slice none 0 0)) : Calls Tryz.prog 87 #[.pointer (some ⟨kb, 0, none⟩)] w fun e w' => e = .returned (.bool true) ∧ w' = w := by
  have c := cell_of_block hb hc
  clear hb hc
  go_enter Tryz.func87, Tryz.ntmps87
  go_wp2_with fail
  go_loopw [12] (fun i w' => i = .int .i64 0 ∧ w' = w) (fun _ _ => 0)
  case atStart => exact ⟨rfl, rfl⟩
  case round =>
    obtain ⟨rfl, rfl⟩ := hrel
    go_wp2_with fail
    go_ret
    exact ⟨rfl, rfl⟩
theorem fillIns_no (hb : w.heap[kb]? = some (.cells C 67 (0, 0))) (hc : C[6]? = some (.slice none 0 0)) : Calls Tryz.prog 36 #[.pointer (some ⟨kb, 0, none⟩)] w fun e w' => e = .returned (.tuple #[]) ∧ w' = w := by
  have c := cell_of_block hb hc
  clear hb hc
  go_enter Tryz.func36, Tryz.ntmps36
  go_wp2_with fail
  go_loopw [10] (fun i w' => i = .int .i64 0 ∧ w' = w) (fun _ _ => 0)
  case atStart => exact ⟨rfl, rfl⟩
  case round =>
    obtain ⟨rfl, rfl⟩ := hrel
    go_wp2_with fail
    go_end0
    exact ⟨rfl, rfl⟩
theorem growIns_no (hb : w.heap[kb]? = some (.cells C 67 (0, 0))) (hc : C[6]? = some (.slice none 0 0)) : Calls Tryz.prog 62 #[.pointer (some ⟨kb, 0, none⟩)] w fun e w' => e = .returned (.tuple #[]) ∧ w' = w := by
  have c := cell_of_block hb hc
  clear hb hc
  go_enter Tryz.func62, Tryz.ntmps62
  go_wp2_with fail
  go_loopw [10] (fun i w' => i = .int .i64 0 ∧ w' = w) (fun _ _ => 0)
  case atStart => exact ⟨rfl, rfl⟩
  case round =>
    obtain ⟨rfl, rfl⟩ := hrel
    go_wp2_with fail
    go_end0
    exact ⟨rfl, rfl⟩
theorem lookIns_no (hb : w.heap[kb]? = some (.cells C 67 (0, 0))) (hc : C[6]? = some (.slice none 0 0)) : Calls Tryz.prog 89 #[.pointer (some ⟨kb, 0, none⟩)] w fun e w' => e = .returned (.bool true) ∧ w' = w := by
  have c := cell_of_block hb hc
  clear hb hc
  go_enter Tryz.func89, Tryz.ntmps89
  go_wp2_with fail
  go_loopw [12] (fun i w' => i = .int .i64 0 ∧ w' = w) (fun _ _ => 0)
  case atStart => exact ⟨rfl, rfl⟩
  case round =>
    obtain ⟨rfl, rfl⟩ := hrel
    go_wp2_with fail
    go_ret
    exact ⟨rfl, rfl⟩
theorem fillEvent_no (hb : w.heap[kb]? = some (.cells C 67 (0, 0))) (hc : C[8]? = some (.slice none 0 0)) : Calls Tryz.prog 38 #[.pointer (some ⟨kb, 0, none⟩)] w fun e w' => e = .returned (.tuple #[]) ∧ w' = w := by
  have c := cell_of_block hb hc
  clear hb hc
  go_enter Tryz.func38, Tryz.ntmps38
  go_wp2_with fail
  go_loopw [10] (fun i w' => i = .int .i64 0 ∧ w' = w) (fun _ _ => 0)
  case atStart => exact ⟨rfl, rfl⟩
  case round =>
    obtain ⟨rfl, rfl⟩ := hrel
    go_wp2_with fail
    go_end0
    exact ⟨rfl, rfl⟩
theorem growEvent_no (hb : w.heap[kb]? = some (.cells C 67 (0, 0))) (hc : C[8]? = some (.slice none 0 0)) : Calls Tryz.prog 64 #[.pointer (some ⟨kb, 0, none⟩)] w fun e w' => e = .returned (.tuple #[]) ∧ w' = w := by
  have c := cell_of_block hb hc
  clear hb hc
  go_enter Tryz.func64, Tryz.ntmps64
  go_wp2_with fail
  go_loopw [10] (fun i w' => i = .int .i64 0 ∧ w' = w) (fun _ _ => 0)
  case atStart => exact ⟨rfl, rfl⟩
  case round =>
    obtain ⟨rfl, rfl⟩ := hrel
    go_wp2_with fail
    go_end0
    exact ⟨rfl, rfl⟩
theorem lookEvent_no (hb : w.heap[kb]? = some (.cells C 67 (0, 0))) (hc : C[8]? = some (.slice none 0 0)) : Calls Tryz.prog 91 #[.pointer (some ⟨kb, 0, none⟩)] w fun e w' => e = .returned (.bool true) ∧ w' = w := by
  have c := cell_of_block hb hc
  clear hb hc
  go_enter Tryz.func91, Tryz.ntmps91
  go_wp2_with fail
  go_loopw [12] (fun i w' => i = .int .i64 0 ∧ w' = w) (fun _ _ => 0)
  case atStart => exact ⟨rfl, rfl⟩
  case round =>
    obtain ⟨rfl, rfl⟩ := hrel
    go_wp2_with fail
    go_ret
    exact ⟨rfl, rfl⟩
theorem fillPick_no (hb : w.heap[kb]? = some (.cells C 67 (0, 0))) (hc : C[9]? = some (.slice none 0 0)) : Calls Tryz.prog 39 #[.pointer (some ⟨kb, 0, none⟩)] w fun e w' => e = .returned (.tuple #[]) ∧ w' = w := by
  have c := cell_of_block hb hc
  clear hb hc
  go_enter Tryz.func39, Tryz.ntmps39
  go_wp2_with fail
  go_loopw [10] (fun i w' => i = .int .i64 0 ∧ w' = w) (fun _ _ => 0)
  case atStart => exact ⟨rfl, rfl⟩
  case round =>
    obtain ⟨rfl, rfl⟩ := hrel
    go_wp2_with fail
    go_end0
    exact ⟨rfl, rfl⟩
theorem growPick_no (hb : w.heap[kb]? = some (.cells C 67 (0, 0))) (hc : C[9]? = some (.slice none 0 0)) : Calls Tryz.prog 65 #[.pointer (some ⟨kb, 0, none⟩)] w fun e w' => e = .returned (.tuple #[]) ∧ w' = w := by
  have c := cell_of_block hb hc
  clear hb hc
  go_enter Tryz.func65, Tryz.ntmps65
  go_wp2_with fail
  go_loopw [10] (fun i w' => i = .int .i64 0 ∧ w' = w) (fun _ _ => 0)
  case atStart => exact ⟨rfl, rfl⟩
  case round =>
    obtain ⟨rfl, rfl⟩ := hrel
    go_wp2_with fail
    go_end0
    exact ⟨rfl, rfl⟩
theorem lookPick_no (hb : w.heap[kb]? = some (.cells C 67 (0, 0))) (hc : C[9]? = some (.slice none 0 0)) : Calls Tryz.prog 92 #[.pointer (some ⟨kb, 0, none⟩)] w fun e w' => e = .returned (.bool true) ∧ w' = w := by
  have c := cell_of_block hb hc
  clear hb hc
  go_enter Tryz.func92, Tryz.ntmps92
  go_wp2_with fail
  go_loopw [12] (fun i w' => i = .int .i64 0 ∧ w' = w) (fun _ _ => 0)
  case atStart => exact ⟨rfl, rfl⟩
  case round =>
    obtain ⟨rfl, rfl⟩ := hrel
    go_wp2_with fail
    go_ret
    exact ⟨rfl, rfl⟩
theorem fillPlace_no (hb : w.heap[kb]? = some (.cells C 67 (0, 0))) (hc : C[10]? = some (.slice none 0 0)) : Calls Tryz.prog 40 #[.pointer (some ⟨kb, 0, none⟩)] w fun e w' => e = .returned (.tuple #[]) ∧ w' = w := by
  have c := cell_of_block hb hc
  clear hb hc
  go_enter Tryz.func40, Tryz.ntmps40
  go_wp2_with fail
  go_loopw [10] (fun i w' => i = .int .i64 0 ∧ w' = w) (fun _ _ => 0)
  case atStart => exact ⟨rfl, rfl⟩
  case round =>
    obtain ⟨rfl, rfl⟩ := hrel
    go_wp2_with fail
    go_end0
    exact ⟨rfl, rfl⟩
theorem growPlace_no (hb : w.heap[kb]? = some (.cells C 67 (0, 0))) (hc : C[10]? = some (.slice none 0 0)) : Calls Tryz.prog 66 #[.pointer (some ⟨kb, 0, none⟩)] w fun e w' => e = .returned (.tuple #[]) ∧ w' = w := by
  have c := cell_of_block hb hc
  clear hb hc
  go_enter Tryz.func66, Tryz.ntmps66
  go_wp2_with fail
  go_loopw [10] (fun i w' => i = .int .i64 0 ∧ w' = w) (fun _ _ => 0)
  case atStart => exact ⟨rfl, rfl⟩
  case round =>
    obtain ⟨rfl, rfl⟩ := hrel
    go_wp2_with fail
    go_end0
    exact ⟨rfl, rfl⟩
theorem lookPlace_no (hb : w.heap[kb]? = some (.cells C 67 (0, 0))) (hc : C[10]? = some (.slice none 0 0)) : Calls Tryz.prog 93 #[.pointer (some ⟨kb, 0, none⟩)] w fun e w' => e = .returned (.bool true) ∧ w' = w := by
  have c := cell_of_block hb hc
  clear hb hc
  go_enter Tryz.func93, Tryz.ntmps93
  go_wp2_with fail
  go_loopw [12] (fun i w' => i = .int .i64 0 ∧ w' = w) (fun _ _ => 0)
  case atStart => exact ⟨rfl, rfl⟩
  case round =>
    obtain ⟨rfl, rfl⟩ := hrel
    go_wp2_with fail
    go_ret
    exact ⟨rfl, rfl⟩
theorem fillTxOp_no (hb : w.heap[kb]? = some (.cells C 67 (0, 0))) (hc : C[11]? = some (.slice none 0 0)) : Calls Tryz.prog 41 #[.pointer (some ⟨kb, 0, none⟩)] w fun e w' => e = .returned (.tuple #[]) ∧ w' = w := by
  have c := cell_of_block hb hc
  clear hb hc
  go_enter Tryz.func41, Tryz.ntmps41
  go_wp2_with fail
  go_loopw [10] (fun i w' => i = .int .i64 0 ∧ w' = w) (fun _ _ => 0)
  case atStart => exact ⟨rfl, rfl⟩
  case round =>
    obtain ⟨rfl, rfl⟩ := hrel
    go_wp2_with fail
    go_end0
    exact ⟨rfl, rfl⟩
theorem growTxOp_no (hb : w.heap[kb]? = some (.cells C 67 (0, 0))) (hc : C[11]? = some (.slice none 0 0)) : Calls Tryz.prog 67 #[.pointer (some ⟨kb, 0, none⟩)] w fun e w' => e = .returned (.tuple #[]) ∧ w' = w := by
  have c := cell_of_block hb hc
  clear hb hc
  go_enter Tryz.func67, Tryz.ntmps67
  go_wp2_with fail
  go_loopw [10] (fun i w' => i = .int .i64 0 ∧ w' = w) (fun _ _ => 0)
  case atStart => exact ⟨rfl, rfl⟩
  case round =>
    obtain ⟨rfl, rfl⟩ := hrel
    go_wp2_with fail
    go_end0
    exact ⟨rfl, rfl⟩
theorem lookTxOp_no (hb : w.heap[kb]? = some (.cells C 67 (0, 0))) (hc : C[11]? = some (.slice none 0 0)) : Calls Tryz.prog 94 #[.pointer (some ⟨kb, 0, none⟩)] w fun e w' => e = .returned (.bool true) ∧ w' = w := by
  have c := cell_of_block hb hc
  clear hb hc
  go_enter Tryz.func94, Tryz.ntmps94
  go_wp2_with fail
  go_loopw [12] (fun i w' => i = .int .i64 0 ∧ w' = w) (fun _ _ => 0)
  case atStart => exact ⟨rfl, rfl⟩
  case round =>
    obtain ⟨rfl, rfl⟩ := hrel
    go_wp2_with fail
    go_ret
    exact ⟨rfl, rfl⟩
theorem fillToken_no (hb : w.heap[kb]? = some (.cells C 67 (0, 0))) (hc : C[12]? = some (.slice none 0 0)) : Calls Tryz.prog 42 #[.pointer (some ⟨kb, 0, none⟩)] w fun e w' => e = .returned (.tuple #[]) ∧ w' = w := by
  have c := cell_of_block hb hc
  clear hb hc
  go_enter Tryz.func42, Tryz.ntmps42
  go_wp2_with fail
  go_loopw [10] (fun i w' => i = .int .i64 0 ∧ w' = w) (fun _ _ => 0)
  case atStart => exact ⟨rfl, rfl⟩
  case round =>
    obtain ⟨rfl, rfl⟩ := hrel
    go_wp2_with fail
    go_end0
    exact ⟨rfl, rfl⟩
theorem growToken_no (hb : w.heap[kb]? = some (.cells C 67 (0, 0))) (hc : C[12]? = some (.slice none 0 0)) : Calls Tryz.prog 68 #[.pointer (some ⟨kb, 0, none⟩)] w fun e w' => e = .returned (.tuple #[]) ∧ w' = w := by
  have c := cell_of_block hb hc
  clear hb hc
  go_enter Tryz.func68, Tryz.ntmps68
  go_wp2_with fail
  go_loopw [10] (fun i w' => i = .int .i64 0 ∧ w' = w) (fun _ _ => 0)
  case atStart => exact ⟨rfl, rfl⟩
  case round =>
    obtain ⟨rfl, rfl⟩ := hrel
    go_wp2_with fail
    go_end0
    exact ⟨rfl, rfl⟩
theorem lookToken_no (hb : w.heap[kb]? = some (.cells C 67 (0, 0))) (hc : C[12]? = some (.slice none 0 0)) : Calls Tryz.prog 95 #[.pointer (some ⟨kb, 0, none⟩)] w fun e w' => e = .returned (.bool true) ∧ w' = w := by
  have c := cell_of_block hb hc
  clear hb hc
  go_enter Tryz.func95, Tryz.ntmps95
  go_wp2_with fail
  go_loopw [12] (fun i w' => i = .int .i64 0 ∧ w' = w) (fun _ _ => 0)
  case atStart => exact ⟨rfl, rfl⟩
  case round =>
    obtain ⟨rfl, rfl⟩ := hrel
    go_wp2_with fail
    go_ret
    exact ⟨rfl, rfl⟩
theorem fillField_no (hb : w.heap[kb]? = some (.cells C 67 (0, 0))) (hc : C[13]? = some (.slice none 0 0)) : Calls Tryz.prog 43 #[.pointer (some ⟨kb, 0, none⟩)] w fun e w' => e = .returned (.tuple #[]) ∧ w' = w := by
  have c := cell_of_block hb hc
  clear hb hc
  go_enter Tryz.func43, Tryz.ntmps43
  go_wp2_with fail
  go_loopw [10] (fun i w' => i = .int .i64 0 ∧ w' = w) (fun _ _ => 0)
  case atStart => exact ⟨rfl, rfl⟩
  case round =>
    obtain ⟨rfl, rfl⟩ := hrel
    go_wp2_with fail
    go_end0
    exact ⟨rfl, rfl⟩
theorem growField_no (hb : w.heap[kb]? = some (.cells C 67 (0, 0))) (hc : C[13]? = some (.slice none 0 0)) : Calls Tryz.prog 69 #[.pointer (some ⟨kb, 0, none⟩)] w fun e w' => e = .returned (.tuple #[]) ∧ w' = w := by
  have c := cell_of_block hb hc
  clear hb hc
  go_enter Tryz.func69, Tryz.ntmps69
  go_wp2_with fail
  go_loopw [10] (fun i w' => i = .int .i64 0 ∧ w' = w) (fun _ _ => 0)
  case atStart => exact ⟨rfl, rfl⟩
  case round =>
    obtain ⟨rfl, rfl⟩ := hrel
    go_wp2_with fail
    go_end0
    exact ⟨rfl, rfl⟩
theorem lookField_no (hb : w.heap[kb]? = some (.cells C 67 (0, 0))) (hc : C[13]? = some (.slice none 0 0)) : Calls Tryz.prog 96 #[.pointer (some ⟨kb, 0, none⟩)] w fun e w' => e = .returned (.bool true) ∧ w' = w := by
  have c := cell_of_block hb hc
  clear hb hc
  go_enter Tryz.func96, Tryz.ntmps96
  go_wp2_with fail
  go_loopw [12] (fun i w' => i = .int .i64 0 ∧ w' = w) (fun _ _ => 0)
  case atStart => exact ⟨rfl, rfl⟩
  case round =>
    obtain ⟨rfl, rfl⟩ := hrel
    go_wp2_with fail
    go_ret
    exact ⟨rfl, rfl⟩
theorem fillSpot_no (hb : w.heap[kb]? = some (.cells C 67 (0, 0))) (hc : C[14]? = some (.slice none 0 0)) : Calls Tryz.prog 44 #[.pointer (some ⟨kb, 0, none⟩)] w fun e w' => e = .returned (.tuple #[]) ∧ w' = w := by
  have c := cell_of_block hb hc
  clear hb hc
  go_enter Tryz.func44, Tryz.ntmps44
  go_wp2_with fail
  go_loopw [10] (fun i w' => i = .int .i64 0 ∧ w' = w) (fun _ _ => 0)
  case atStart => exact ⟨rfl, rfl⟩
  case round =>
    obtain ⟨rfl, rfl⟩ := hrel
    go_wp2_with fail
    go_end0
    exact ⟨rfl, rfl⟩
theorem growSpot_no (hb : w.heap[kb]? = some (.cells C 67 (0, 0))) (hc : C[14]? = some (.slice none 0 0)) : Calls Tryz.prog 70 #[.pointer (some ⟨kb, 0, none⟩)] w fun e w' => e = .returned (.tuple #[]) ∧ w' = w := by
  have c := cell_of_block hb hc
  clear hb hc
  go_enter Tryz.func70, Tryz.ntmps70
  go_wp2_with fail
  go_loopw [10] (fun i w' => i = .int .i64 0 ∧ w' = w) (fun _ _ => 0)
  case atStart => exact ⟨rfl, rfl⟩
  case round =>
    obtain ⟨rfl, rfl⟩ := hrel
    go_wp2_with fail
    go_end0
    exact ⟨rfl, rfl⟩
theorem lookSpot_no (hb : w.heap[kb]? = some (.cells C 67 (0, 0))) (hc : C[14]? = some (.slice none 0 0)) : Calls Tryz.prog 97 #[.pointer (some ⟨kb, 0, none⟩)] w fun e w' => e = .returned (.bool true) ∧ w' = w := by
  have c := cell_of_block hb hc
  clear hb hc
  go_enter Tryz.func97, Tryz.ntmps97
  go_wp2_with fail
  go_loopw [12] (fun i w' => i = .int .i64 0 ∧ w' = w) (fun _ _ => 0)
  case atStart => exact ⟨rfl, rfl⟩
  case round =>
    obtain ⟨rfl, rfl⟩ := hrel
    go_wp2_with fail
    go_ret
    exact ⟨rfl, rfl⟩
theorem fillSeen_no (hb : w.heap[kb]? = some (.cells C 67 (0, 0))) (hc : C[15]? = some (.slice none 0 0)) : Calls Tryz.prog 45 #[.pointer (some ⟨kb, 0, none⟩)] w fun e w' => e = .returned (.tuple #[]) ∧ w' = w := by
  have c := cell_of_block hb hc
  clear hb hc
  go_enter Tryz.func45, Tryz.ntmps45
  go_wp2_with fail
  go_loopw [10] (fun i w' => i = .int .i64 0 ∧ w' = w) (fun _ _ => 0)
  case atStart => exact ⟨rfl, rfl⟩
  case round =>
    obtain ⟨rfl, rfl⟩ := hrel
    go_wp2_with fail
    go_end0
    exact ⟨rfl, rfl⟩
theorem growSeen_no (hb : w.heap[kb]? = some (.cells C 67 (0, 0))) (hc : C[15]? = some (.slice none 0 0)) : Calls Tryz.prog 71 #[.pointer (some ⟨kb, 0, none⟩)] w fun e w' => e = .returned (.tuple #[]) ∧ w' = w := by
  have c := cell_of_block hb hc
  clear hb hc
  go_enter Tryz.func71, Tryz.ntmps71
  go_wp2_with fail
  go_loopw [10] (fun i w' => i = .int .i64 0 ∧ w' = w) (fun _ _ => 0)
  case atStart => exact ⟨rfl, rfl⟩
  case round =>
    obtain ⟨rfl, rfl⟩ := hrel
    go_wp2_with fail
    go_end0
    exact ⟨rfl, rfl⟩
theorem lookSeen_no (hb : w.heap[kb]? = some (.cells C 67 (0, 0))) (hc : C[15]? = some (.slice none 0 0)) : Calls Tryz.prog 98 #[.pointer (some ⟨kb, 0, none⟩)] w fun e w' => e = .returned (.bool true) ∧ w' = w := by
  have c := cell_of_block hb hc
  clear hb hc
  go_enter Tryz.func98, Tryz.ntmps98
  go_wp2_with fail
  go_loopw [12] (fun i w' => i = .int .i64 0 ∧ w' = w) (fun _ _ => 0)
  case atStart => exact ⟨rfl, rfl⟩
  case round =>
    obtain ⟨rfl, rfl⟩ := hrel
    go_wp2_with fail
    go_ret
    exact ⟨rfl, rfl⟩
theorem fillExpr_no (hb : w.heap[kb]? = some (.cells C 67 (0, 0))) (hc : C[16]? = some (.slice none 0 0)) : Calls Tryz.prog 46 #[.pointer (some ⟨kb, 0, none⟩)] w fun e w' => e = .returned (.tuple #[]) ∧ w' = w := by
  have c := cell_of_block hb hc
  clear hb hc
  go_enter Tryz.func46, Tryz.ntmps46
  go_wp2_with fail
  go_loopw [10] (fun i w' => i = .int .i64 0 ∧ w' = w) (fun _ _ => 0)
  case atStart => exact ⟨rfl, rfl⟩
  case round =>
    obtain ⟨rfl, rfl⟩ := hrel
    go_wp2_with fail
    go_end0
    exact ⟨rfl, rfl⟩
theorem growExpr_no (hb : w.heap[kb]? = some (.cells C 67 (0, 0))) (hc : C[16]? = some (.slice none 0 0)) : Calls Tryz.prog 72 #[.pointer (some ⟨kb, 0, none⟩)] w fun e w' => e = .returned (.tuple #[]) ∧ w' = w := by
  have c := cell_of_block hb hc
  clear hb hc
  go_enter Tryz.func72, Tryz.ntmps72
  go_wp2_with fail
  go_loopw [10] (fun i w' => i = .int .i64 0 ∧ w' = w) (fun _ _ => 0)
  case atStart => exact ⟨rfl, rfl⟩
  case round =>
    obtain ⟨rfl, rfl⟩ := hrel
    go_wp2_with fail
    go_end0
    exact ⟨rfl, rfl⟩
theorem lookExpr_no (hb : w.heap[kb]? = some (.cells C 67 (0, 0))) (hc : C[16]? = some (.slice none 0 0)) : Calls Tryz.prog 99 #[.pointer (some ⟨kb, 0, none⟩)] w fun e w' => e = .returned (.bool true) ∧ w' = w := by
  have c := cell_of_block hb hc
  clear hb hc
  go_enter Tryz.func99, Tryz.ntmps99
  go_wp2_with fail
  go_loopw [12] (fun i w' => i = .int .i64 0 ∧ w' = w) (fun _ _ => 0)
  case atStart => exact ⟨rfl, rfl⟩
  case round =>
    obtain ⟨rfl, rfl⟩ := hrel
    go_wp2_with fail
    go_ret
    exact ⟨rfl, rfl⟩
theorem fillStmt_no (hb : w.heap[kb]? = some (.cells C 67 (0, 0))) (hc : C[17]? = some (.slice none 0 0)) : Calls Tryz.prog 47 #[.pointer (some ⟨kb, 0, none⟩)] w fun e w' => e = .returned (.tuple #[]) ∧ w' = w := by
  have c := cell_of_block hb hc
  clear hb hc
  go_enter Tryz.func47, Tryz.ntmps47
  go_wp2_with fail
  go_loopw [10] (fun i w' => i = .int .i64 0 ∧ w' = w) (fun _ _ => 0)
  case atStart => exact ⟨rfl, rfl⟩
  case round =>
    obtain ⟨rfl, rfl⟩ := hrel
    go_wp2_with fail
    go_end0
    exact ⟨rfl, rfl⟩
theorem growStmt_no (hb : w.heap[kb]? = some (.cells C 67 (0, 0))) (hc : C[17]? = some (.slice none 0 0)) : Calls Tryz.prog 73 #[.pointer (some ⟨kb, 0, none⟩)] w fun e w' => e = .returned (.tuple #[]) ∧ w' = w := by
  have c := cell_of_block hb hc
  clear hb hc
  go_enter Tryz.func73, Tryz.ntmps73
  go_wp2_with fail
  go_loopw [10] (fun i w' => i = .int .i64 0 ∧ w' = w) (fun _ _ => 0)
  case atStart => exact ⟨rfl, rfl⟩
  case round =>
    obtain ⟨rfl, rfl⟩ := hrel
    go_wp2_with fail
    go_end0
    exact ⟨rfl, rfl⟩
theorem lookStmt_no (hb : w.heap[kb]? = some (.cells C 67 (0, 0))) (hc : C[17]? = some (.slice none 0 0)) : Calls Tryz.prog 100 #[.pointer (some ⟨kb, 0, none⟩)] w fun e w' => e = .returned (.bool true) ∧ w' = w := by
  have c := cell_of_block hb hc
  clear hb hc
  go_enter Tryz.func100, Tryz.ntmps100
  go_wp2_with fail
  go_loopw [12] (fun i w' => i = .int .i64 0 ∧ w' = w) (fun _ _ => 0)
  case atStart => exact ⟨rfl, rfl⟩
  case round =>
    obtain ⟨rfl, rfl⟩ := hrel
    go_wp2_with fail
    go_ret
    exact ⟨rfl, rfl⟩
theorem fillRecord_no (hb : w.heap[kb]? = some (.cells C 67 (0, 0))) (hc : C[18]? = some (.slice none 0 0)) : Calls Tryz.prog 48 #[.pointer (some ⟨kb, 0, none⟩)] w fun e w' => e = .returned (.tuple #[]) ∧ w' = w := by
  have c := cell_of_block hb hc
  clear hb hc
  go_enter Tryz.func48, Tryz.ntmps48
  go_wp2_with fail
  go_loopw [10] (fun i w' => i = .int .i64 0 ∧ w' = w) (fun _ _ => 0)
  case atStart => exact ⟨rfl, rfl⟩
  case round =>
    obtain ⟨rfl, rfl⟩ := hrel
    go_wp2_with fail
    go_end0
    exact ⟨rfl, rfl⟩
theorem growRecord_no (hb : w.heap[kb]? = some (.cells C 67 (0, 0))) (hc : C[18]? = some (.slice none 0 0)) : Calls Tryz.prog 74 #[.pointer (some ⟨kb, 0, none⟩)] w fun e w' => e = .returned (.tuple #[]) ∧ w' = w := by
  have c := cell_of_block hb hc
  clear hb hc
  go_enter Tryz.func74, Tryz.ntmps74
  go_wp2_with fail
  go_loopw [10] (fun i w' => i = .int .i64 0 ∧ w' = w) (fun _ _ => 0)
  case atStart => exact ⟨rfl, rfl⟩
  case round =>
    obtain ⟨rfl, rfl⟩ := hrel
    go_wp2_with fail
    go_end0
    exact ⟨rfl, rfl⟩
theorem lookRecord_no (hb : w.heap[kb]? = some (.cells C 67 (0, 0))) (hc : C[18]? = some (.slice none 0 0)) : Calls Tryz.prog 101 #[.pointer (some ⟨kb, 0, none⟩)] w fun e w' => e = .returned (.bool true) ∧ w' = w := by
  have c := cell_of_block hb hc
  clear hb hc
  go_enter Tryz.func101, Tryz.ntmps101
  go_wp2_with fail
  go_loopw [12] (fun i w' => i = .int .i64 0 ∧ w' = w) (fun _ _ => 0)
  case atStart => exact ⟨rfl, rfl⟩
  case round =>
    obtain ⟨rfl, rfl⟩ := hrel
    go_wp2_with fail
    go_ret
    exact ⟨rfl, rfl⟩
theorem fillFunc_no (hb : w.heap[kb]? = some (.cells C 67 (0, 0))) (hc : C[19]? = some (.slice none 0 0)) : Calls Tryz.prog 49 #[.pointer (some ⟨kb, 0, none⟩)] w fun e w' => e = .returned (.tuple #[]) ∧ w' = w := by
  have c := cell_of_block hb hc
  clear hb hc
  go_enter Tryz.func49, Tryz.ntmps49
  go_wp2_with fail
  go_loopw [10] (fun i w' => i = .int .i64 0 ∧ w' = w) (fun _ _ => 0)
  case atStart => exact ⟨rfl, rfl⟩
  case round =>
    obtain ⟨rfl, rfl⟩ := hrel
    go_wp2_with fail
    go_end0
    exact ⟨rfl, rfl⟩
theorem growFunc_no (hb : w.heap[kb]? = some (.cells C 67 (0, 0))) (hc : C[19]? = some (.slice none 0 0)) : Calls Tryz.prog 75 #[.pointer (some ⟨kb, 0, none⟩)] w fun e w' => e = .returned (.tuple #[]) ∧ w' = w := by
  have c := cell_of_block hb hc
  clear hb hc
  go_enter Tryz.func75, Tryz.ntmps75
  go_wp2_with fail
  go_loopw [10] (fun i w' => i = .int .i64 0 ∧ w' = w) (fun _ _ => 0)
  case atStart => exact ⟨rfl, rfl⟩
  case round =>
    obtain ⟨rfl, rfl⟩ := hrel
    go_wp2_with fail
    go_end0
    exact ⟨rfl, rfl⟩
theorem lookFunc_no (hb : w.heap[kb]? = some (.cells C 67 (0, 0))) (hc : C[19]? = some (.slice none 0 0)) : Calls Tryz.prog 102 #[.pointer (some ⟨kb, 0, none⟩)] w fun e w' => e = .returned (.bool true) ∧ w' = w := by
  have c := cell_of_block hb hc
  clear hb hc
  go_enter Tryz.func102, Tryz.ntmps102
  go_wp2_with fail
  go_loopw [12] (fun i w' => i = .int .i64 0 ∧ w' = w) (fun _ _ => 0)
  case atStart => exact ⟨rfl, rfl⟩
  case round =>
    obtain ⟨rfl, rfl⟩ := hrel
    go_wp2_with fail
    go_ret
    exact ⟨rfl, rfl⟩
theorem fillBlock_no (hb : w.heap[kb]? = some (.cells C 67 (0, 0))) (hc : C[20]? = some (.slice none 0 0)) : Calls Tryz.prog 50 #[.pointer (some ⟨kb, 0, none⟩)] w fun e w' => e = .returned (.tuple #[]) ∧ w' = w := by
  have c := cell_of_block hb hc
  clear hb hc
  go_enter Tryz.func50, Tryz.ntmps50
  go_wp2_with fail
  go_loopw [10] (fun i w' => i = .int .i64 0 ∧ w' = w) (fun _ _ => 0)
  case atStart => exact ⟨rfl, rfl⟩
  case round =>
    obtain ⟨rfl, rfl⟩ := hrel
    go_wp2_with fail
    go_end0
    exact ⟨rfl, rfl⟩
theorem growBlock_no (hb : w.heap[kb]? = some (.cells C 67 (0, 0))) (hc : C[20]? = some (.slice none 0 0)) : Calls Tryz.prog 76 #[.pointer (some ⟨kb, 0, none⟩)] w fun e w' => e = .returned (.tuple #[]) ∧ w' = w := by
  have c := cell_of_block hb hc
  clear hb hc
  go_enter Tryz.func76, Tryz.ntmps76
  go_wp2_with fail
  go_loopw [10] (fun i w' => i = .int .i64 0 ∧ w' = w) (fun _ _ => 0)
  case atStart => exact ⟨rfl, rfl⟩
  case round =>
    obtain ⟨rfl, rfl⟩ := hrel
    go_wp2_with fail
    go_end0
    exact ⟨rfl, rfl⟩
theorem lookBlock_no (hb : w.heap[kb]? = some (.cells C 67 (0, 0))) (hc : C[20]? = some (.slice none 0 0)) : Calls Tryz.prog 103 #[.pointer (some ⟨kb, 0, none⟩)] w fun e w' => e = .returned (.bool true) ∧ w' = w := by
  have c := cell_of_block hb hc
  clear hb hc
  go_enter Tryz.func103, Tryz.ntmps103
  go_wp2_with fail
  go_loopw [12] (fun i w' => i = .int .i64 0 ∧ w' = w) (fun _ _ => 0)
  case atStart => exact ⟨rfl, rfl⟩
  case round =>
    obtain ⟨rfl, rfl⟩ := hrel
    go_wp2_with fail
    go_ret
    exact ⟨rfl, rfl⟩
theorem fillGraph_no (hb : w.heap[kb]? = some (.cells C 67 (0, 0))) (hc : C[21]? = some (.slice none 0 0)) : Calls Tryz.prog 51 #[.pointer (some ⟨kb, 0, none⟩)] w fun e w' => e = .returned (.tuple #[]) ∧ w' = w := by
  have c := cell_of_block hb hc
  clear hb hc
  go_enter Tryz.func51, Tryz.ntmps51
  go_wp2_with fail
  go_loopw [10] (fun i w' => i = .int .i64 0 ∧ w' = w) (fun _ _ => 0)
  case atStart => exact ⟨rfl, rfl⟩
  case round =>
    obtain ⟨rfl, rfl⟩ := hrel
    go_wp2_with fail
    go_end0
    exact ⟨rfl, rfl⟩
theorem growGraph_no (hb : w.heap[kb]? = some (.cells C 67 (0, 0))) (hc : C[21]? = some (.slice none 0 0)) : Calls Tryz.prog 77 #[.pointer (some ⟨kb, 0, none⟩)] w fun e w' => e = .returned (.tuple #[]) ∧ w' = w := by
  have c := cell_of_block hb hc
  clear hb hc
  go_enter Tryz.func77, Tryz.ntmps77
  go_wp2_with fail
  go_loopw [10] (fun i w' => i = .int .i64 0 ∧ w' = w) (fun _ _ => 0)
  case atStart => exact ⟨rfl, rfl⟩
  case round =>
    obtain ⟨rfl, rfl⟩ := hrel
    go_wp2_with fail
    go_end0
    exact ⟨rfl, rfl⟩
theorem lookGraph_no (hb : w.heap[kb]? = some (.cells C 67 (0, 0))) (hc : C[21]? = some (.slice none 0 0)) : Calls Tryz.prog 104 #[.pointer (some ⟨kb, 0, none⟩)] w fun e w' => e = .returned (.bool true) ∧ w' = w := by
  have c := cell_of_block hb hc
  clear hb hc
  go_enter Tryz.func104, Tryz.ntmps104
  go_wp2_with fail
  go_loopw [12] (fun i w' => i = .int .i64 0 ∧ w' = w) (fun _ _ => 0)
  case atStart => exact ⟨rfl, rfl⟩
  case round =>
    obtain ⟨rfl, rfl⟩ := hrel
    go_wp2_with fail
    go_ret
    exact ⟨rfl, rfl⟩
theorem fillAttempt_no (hb : w.heap[kb]? = some (.cells C 67 (0, 0))) (hc : C[22]? = some (.slice none 0 0)) : Calls Tryz.prog 52 #[.pointer (some ⟨kb, 0, none⟩)] w fun e w' => e = .returned (.tuple #[]) ∧ w' = w := by
  have c := cell_of_block hb hc
  clear hb hc
  go_enter Tryz.func52, Tryz.ntmps52
  go_wp2_with fail
  go_loopw [10] (fun i w' => i = .int .i64 0 ∧ w' = w) (fun _ _ => 0)
  case atStart => exact ⟨rfl, rfl⟩
  case round =>
    obtain ⟨rfl, rfl⟩ := hrel
    go_wp2_with fail
    go_end0
    exact ⟨rfl, rfl⟩
theorem growAttempt_no (hb : w.heap[kb]? = some (.cells C 67 (0, 0))) (hc : C[22]? = some (.slice none 0 0)) : Calls Tryz.prog 78 #[.pointer (some ⟨kb, 0, none⟩)] w fun e w' => e = .returned (.tuple #[]) ∧ w' = w := by
  have c := cell_of_block hb hc
  clear hb hc
  go_enter Tryz.func78, Tryz.ntmps78
  go_wp2_with fail
  go_loopw [10] (fun i w' => i = .int .i64 0 ∧ w' = w) (fun _ _ => 0)
  case atStart => exact ⟨rfl, rfl⟩
  case round =>
    obtain ⟨rfl, rfl⟩ := hrel
    go_wp2_with fail
    go_end0
    exact ⟨rfl, rfl⟩
theorem lookAttempt_no (hb : w.heap[kb]? = some (.cells C 67 (0, 0))) (hc : C[22]? = some (.slice none 0 0)) : Calls Tryz.prog 105 #[.pointer (some ⟨kb, 0, none⟩)] w fun e w' => e = .returned (.bool true) ∧ w' = w := by
  have c := cell_of_block hb hc
  clear hb hc
  go_enter Tryz.func105, Tryz.ntmps105
  go_wp2_with fail
  go_loopw [12] (fun i w' => i = .int .i64 0 ∧ w' = w) (fun _ _ => 0)
  case atStart => exact ⟨rfl, rfl⟩
  case round =>
    obtain ⟨rfl, rfl⟩ := hrel
    go_wp2_with fail
    go_ret
    exact ⟨rfl, rfl⟩
theorem fillNumberRow_no (hb : w.heap[kb]? = some (.cells C 67 (0, 0))) (hc : C[23]? = some (.slice none 0 0)) : Calls Tryz.prog 53 #[.pointer (some ⟨kb, 0, none⟩)] w fun e w' => e = .returned (.tuple #[]) ∧ w' = w := by
  have c := cell_of_block hb hc
  clear hb hc
  go_enter Tryz.func53, Tryz.ntmps53
  go_wp2_with fail
  go_loopw [10] (fun i w' => i = .int .i64 0 ∧ w' = w) (fun _ _ => 0)
  case atStart => exact ⟨rfl, rfl⟩
  case round =>
    obtain ⟨rfl, rfl⟩ := hrel
    go_wp2_with fail
    go_end0
    exact ⟨rfl, rfl⟩
theorem growNumberRow_no (hb : w.heap[kb]? = some (.cells C 67 (0, 0))) (hc : C[23]? = some (.slice none 0 0)) : Calls Tryz.prog 79 #[.pointer (some ⟨kb, 0, none⟩)] w fun e w' => e = .returned (.tuple #[]) ∧ w' = w := by
  have c := cell_of_block hb hc
  clear hb hc
  go_enter Tryz.func79, Tryz.ntmps79
  go_wp2_with fail
  go_loopw [10] (fun i w' => i = .int .i64 0 ∧ w' = w) (fun _ _ => 0)
  case atStart => exact ⟨rfl, rfl⟩
  case round =>
    obtain ⟨rfl, rfl⟩ := hrel
    go_wp2_with fail
    go_end0
    exact ⟨rfl, rfl⟩
theorem lookNumberRow_no (hb : w.heap[kb]? = some (.cells C 67 (0, 0))) (hc : C[23]? = some (.slice none 0 0)) : Calls Tryz.prog 106 #[.pointer (some ⟨kb, 0, none⟩)] w fun e w' => e = .returned (.bool true) ∧ w' = w := by
  have c := cell_of_block hb hc
  clear hb hc
  go_enter Tryz.func106, Tryz.ntmps106
  go_wp2_with fail
  go_loopw [12] (fun i w' => i = .int .i64 0 ∧ w' = w) (fun _ _ => 0)
  case atStart => exact ⟨rfl, rfl⟩
  case round =>
    obtain ⟨rfl, rfl⟩ := hrel
    go_wp2_with fail
    go_ret
    exact ⟨rfl, rfl⟩
theorem fillStmtRow_no (hb : w.heap[kb]? = some (.cells C 67 (0, 0))) (hc : C[25]? = some (.slice none 0 0)) : Calls Tryz.prog 55 #[.pointer (some ⟨kb, 0, none⟩)] w fun e w' => e = .returned (.tuple #[]) ∧ w' = w := by
  have c := cell_of_block hb hc
  clear hb hc
  go_enter Tryz.func55, Tryz.ntmps55
  go_wp2_with fail
  go_loopw [10] (fun i w' => i = .int .i64 0 ∧ w' = w) (fun _ _ => 0)
  case atStart => exact ⟨rfl, rfl⟩
  case round =>
    obtain ⟨rfl, rfl⟩ := hrel
    go_wp2_with fail
    go_end0
    exact ⟨rfl, rfl⟩
theorem growStmtRow_no (hb : w.heap[kb]? = some (.cells C 67 (0, 0))) (hc : C[25]? = some (.slice none 0 0)) : Calls Tryz.prog 81 #[.pointer (some ⟨kb, 0, none⟩)] w fun e w' => e = .returned (.tuple #[]) ∧ w' = w := by
  have c := cell_of_block hb hc
  clear hb hc
  go_enter Tryz.func81, Tryz.ntmps81
  go_wp2_with fail
  go_loopw [10] (fun i w' => i = .int .i64 0 ∧ w' = w) (fun _ _ => 0)
  case atStart => exact ⟨rfl, rfl⟩
  case round =>
    obtain ⟨rfl, rfl⟩ := hrel
    go_wp2_with fail
    go_end0
    exact ⟨rfl, rfl⟩
theorem lookStmtRow_no (hb : w.heap[kb]? = some (.cells C 67 (0, 0))) (hc : C[25]? = some (.slice none 0 0)) : Calls Tryz.prog 108 #[.pointer (some ⟨kb, 0, none⟩)] w fun e w' => e = .returned (.bool true) ∧ w' = w := by
  have c := cell_of_block hb hc
  clear hb hc
  go_enter Tryz.func108, Tryz.ntmps108
  go_wp2_with fail
  go_loopw [12] (fun i w' => i = .int .i64 0 ∧ w' = w) (fun _ _ => 0)
  case atStart => exact ⟨rfl, rfl⟩
  case round =>
    obtain ⟨rfl, rfl⟩ := hrel
    go_wp2_with fail
    go_ret
    exact ⟨rfl, rfl⟩
theorem fillTxRow_no (hb : w.heap[kb]? = some (.cells C 67 (0, 0))) (hc : C[26]? = some (.slice none 0 0)) : Calls Tryz.prog 56 #[.pointer (some ⟨kb, 0, none⟩)] w fun e w' => e = .returned (.tuple #[]) ∧ w' = w := by
  have c := cell_of_block hb hc
  clear hb hc
  go_enter Tryz.func56, Tryz.ntmps56
  go_wp2_with fail
  go_loopw [10] (fun i w' => i = .int .i64 0 ∧ w' = w) (fun _ _ => 0)
  case atStart => exact ⟨rfl, rfl⟩
  case round =>
    obtain ⟨rfl, rfl⟩ := hrel
    go_wp2_with fail
    go_end0
    exact ⟨rfl, rfl⟩
theorem growTxRow_no (hb : w.heap[kb]? = some (.cells C 67 (0, 0))) (hc : C[26]? = some (.slice none 0 0)) : Calls Tryz.prog 82 #[.pointer (some ⟨kb, 0, none⟩)] w fun e w' => e = .returned (.tuple #[]) ∧ w' = w := by
  have c := cell_of_block hb hc
  clear hb hc
  go_enter Tryz.func82, Tryz.ntmps82
  go_wp2_with fail
  go_loopw [10] (fun i w' => i = .int .i64 0 ∧ w' = w) (fun _ _ => 0)
  case atStart => exact ⟨rfl, rfl⟩
  case round =>
    obtain ⟨rfl, rfl⟩ := hrel
    go_wp2_with fail
    go_end0
    exact ⟨rfl, rfl⟩
theorem lookTxRow_no (hb : w.heap[kb]? = some (.cells C 67 (0, 0))) (hc : C[26]? = some (.slice none 0 0)) : Calls Tryz.prog 109 #[.pointer (some ⟨kb, 0, none⟩)] w fun e w' => e = .returned (.bool true) ∧ w' = w := by
  have c := cell_of_block hb hc
  clear hb hc
  go_enter Tryz.func109, Tryz.ntmps109
  go_wp2_with fail
  go_loopw [12] (fun i w' => i = .int .i64 0 ∧ w' = w) (fun _ _ => 0)
  case atStart => exact ⟨rfl, rfl⟩
  case round =>
    obtain ⟨rfl, rfl⟩ := hrel
    go_wp2_with fail
    go_ret
    exact ⟨rfl, rfl⟩
theorem fillSeenRow_no (hb : w.heap[kb]? = some (.cells C 67 (0, 0))) (hc : C[27]? = some (.slice none 0 0)) : Calls Tryz.prog 57 #[.pointer (some ⟨kb, 0, none⟩)] w fun e w' => e = .returned (.tuple #[]) ∧ w' = w := by
  have c := cell_of_block hb hc
  clear hb hc
  go_enter Tryz.func57, Tryz.ntmps57
  go_wp2_with fail
  go_loopw [10] (fun i w' => i = .int .i64 0 ∧ w' = w) (fun _ _ => 0)
  case atStart => exact ⟨rfl, rfl⟩
  case round =>
    obtain ⟨rfl, rfl⟩ := hrel
    go_wp2_with fail
    go_end0
    exact ⟨rfl, rfl⟩
theorem growSeenRow_no (hb : w.heap[kb]? = some (.cells C 67 (0, 0))) (hc : C[27]? = some (.slice none 0 0)) : Calls Tryz.prog 83 #[.pointer (some ⟨kb, 0, none⟩)] w fun e w' => e = .returned (.tuple #[]) ∧ w' = w := by
  have c := cell_of_block hb hc
  clear hb hc
  go_enter Tryz.func83, Tryz.ntmps83
  go_wp2_with fail
  go_loopw [10] (fun i w' => i = .int .i64 0 ∧ w' = w) (fun _ _ => 0)
  case atStart => exact ⟨rfl, rfl⟩
  case round =>
    obtain ⟨rfl, rfl⟩ := hrel
    go_wp2_with fail
    go_end0
    exact ⟨rfl, rfl⟩
theorem lookSeenRow_no (hb : w.heap[kb]? = some (.cells C 67 (0, 0))) (hc : C[27]? = some (.slice none 0 0)) : Calls Tryz.prog 110 #[.pointer (some ⟨kb, 0, none⟩)] w fun e w' => e = .returned (.bool true) ∧ w' = w := by
  have c := cell_of_block hb hc
  clear hb hc
  go_enter Tryz.func110, Tryz.ntmps110
  go_wp2_with fail
  go_loopw [12] (fun i w' => i = .int .i64 0 ∧ w' = w) (fun _ _ => 0)
  case atStart => exact ⟨rfl, rfl⟩
  case round =>
    obtain ⟨rfl, rfl⟩ := hrel
    go_wp2_with fail
    go_ret
    exact ⟨rfl, rfl⟩
theorem bits_no (k : Nat) (hb : w.heap[kb]? = some (.cells C 67 (0, 0))) (hc : C[1]? = some (.slice none 0 0)) : Calls Tryz.prog 84 #[.pointer (some ⟨kb, 0, none⟩), .int .u64 (k : Int)] w fun e w' => e = .returned (.bool true) ∧ w' = w := by
  have c := cell_of_block hb hc
  clear hb hc
  go_enter Tryz.func84, Tryz.ntmps84
  go_wp2_with fail
  go_loopw [19] (fun i w' => i = .int .i64 0 ∧ w' = w) (fun _ _ => 0)
  case atStart => exact ⟨rfl, rfl⟩
  case round =>
    obtain ⟨rfl, hw⟩ := hrel
    rw [hw]
    go_wp2_with fail
    go_loopw [44] (fun i w' => i = .int .i64 0 ∧ w' = w) (fun _ _ => 0)
    case atStart => exact ⟨rfl, rfl⟩
    case round =>
      obtain ⟨rfl, hw2⟩ := hrel
      rw [hw2]
      go_wp2_with fail
      go_loopw [77] (fun i w' => i = .int .i64 0 ∧ w' = w) (fun _ _ => 0)
      case atStart => exact ⟨rfl, rfl⟩
      case round =>
        obtain ⟨rfl, hw3⟩ := hrel
        rw [hw3]
        go_wp2_with fail
        go_ret
        exact ⟨rfl, rfl⟩
end
def markTxOp (n : Int) : List Value := [.int .i64 (-1000 - n), .int .u8 0, .int .i64 0, .int .i64 0]
theorem markTxOp_any (w : World) (n : Int) (h : 0 ≤ n ∧ n ≤ 1000000) : Calls Tryz.prog 112 #[.int .i64 n] w fun e w' => ∃ c : Array Value, e = .returned (.agg c) ∧ c.toList = markTxOp n ∧ c.size = 4 ∧ Below w.heap.size w w' := by
  have e1 : IntKind.i64.wrap (-1000 - n) = -1000 - n := IntWalk.i64_in _ (by omega)
  clear h
  go_enter Tryz.func112, Tryz.ntmps112
  go_wp2
  exact bodyPost_ret (v := .agg (markTxOp n).toArray) (by simp [results, Tryz.results112, go_sem, markTxOp]) rfl ⟨_, rfl, rfl, rfl, (Below.refl _ _).alloc (Nat.le_refl _) _⟩
theorem markTxOp_lit (w : World) (n : Int) (h : 0 ≤ n ∧ n ≤ 1000000) : Calls Tryz.prog 112 #[.int .i64 n] w fun e w' => e = .returned (.agg #[.int .i64 (-1000 - n), .int .u8 0, .int .i64 0, .int .i64 0]) ∧ Below w.heap.size w w' := by
  refine (markTxOp_any w n h).mono ?_
  rintro e w' ⟨c, rfl, hc, _, hb⟩
  refine ⟨?_, hb⟩
  have : c = (markTxOp n).toArray := by rw [← hc]
  rw [this]
  rfl
theorem isTxOp_any (w : World) (n : Int) (h : 0 ≤ n ∧ n ≤ 1000000) : Calls Tryz.prog 122 #[.agg #[.int .i64 (-1000 - n), .int .u8 0, .int .i64 0, .int .i64 0], .int .i64 n] w fun e w' => e = .returned (.bool true) ∧ Below w.heap.size w w' := by
  have H := hidI h
  have hbx := fun t' => ext_block (block_new w (.cells #[.int .i64 (-1000 - n), .int .u8 0, .int .i64 0, .int .i64 0] 88)) t'
  have x0 := fun t' => cell_of_block (o := 0) (hbx t') rfl
  have x1 := fun t' => cell_of_block (o := 1) (hbx t') rfl
  have x2 := fun t' => cell_of_block (o := 2) (hbx t') rfl
  have x3 := fun t' => cell_of_block (o := 3) (hbx t') rfl
  have HB := hidI ((Below.refl w.heap.size w).alloc (Nat.le_refl _) (.cells #[.int .i64 (-1000 - n), .int .u8 0, .int .i64 0, .int .i64 0] 88))
  clear h hbx
  go_enter Tryz.func122, Tryz.ntmps122
  go_wp2_with fail
  refine wp_region_grow (by kernel_rfl) (by kernel_rfl) ?_
  repeat (go_big_quiet_step ((first | (go_at_call 112; exact grow_of (markTxOp_lit _ _ H.out)))))
  refine wpQuiet_nil ?_
  intro w1 hb
  have HB1 := hidI (HB.out.trans (hb.mono HB.out.size))
  clear hb
  go_wp2_with fail
  go_ret
  exact ⟨rfl, HB1.out⟩
theorem sameTxOps_true {w : World} {ao bo : Option Addr} {ca cb : Nat} {l : List Tx} (ha : RdT encTxD w 4 (.slice ao l.length ca) l) (hb : RdT encTxD w 4 (.slice bo l.length cb) l) (hm : l.length ≤ 9223372036854775807) :
    Calls Tryz.prog 123 #[.slice ao l.length ca, .slice bo l.length cb] w fun e w' => e = .returned (.bool true) ∧ Below w.heap.size w w' := by
  have HA := hidI ha
  have HB := hidI hb
  clear ha hb
  go_enter Tryz.func123, Tryz.ntmps123
  go_wp2
  go_loopw [13] (fun i wr => ∃ k n : Nat, k ≤ l.length ∧ i = .int .i64 k ∧ wr = w.drewN n) (fun i _ => l.length - (intOf i).toNat)
  case atStart => exact ⟨0, 0, Nat.zero_le _, rfl, rfl⟩
  case round =>
    obtain ⟨k, n, hk, rfl, rfl⟩ := hrel
    by_cases hlt : k < l.length
    · obtain ⟨x, hx⟩ := some_at hlt
      obtain ⟨b1, o1, rfl, hs1, hc1⟩ := HA.out.at encTxD_len hx
      obtain ⟨b2, o2, rfl, hs2, hc2⟩ := HB.out.at encTxD_len hx
      have x0 := hc1 0 _ rfl
      have x1 := hc1 1 _ rfl
      have x2 := hc1 2 _ rfl
      have x3 := hc1 3 _ rfl
      have y0 := hc2 0 _ rfl
      have y1 := hc2 1 _ rfl
      have y2 := hc2 2 _ rfl
      have y3 := hc2 3 _ rfl
      simp only [Nat.add_zero] at x0 y0
      clear hc1 hc2 hx hs1 hs2
      go_wp2_with fail
      go_quiet (fail)
      go_wp2
      exact ⟨⟨k + 1, _, by omega, by go_num, rfl⟩, by simp [intOf]; omega⟩
    · obtain rfl : k = l.length := by omega
      go_wp2
      go_ret
      exact ⟨rfl, below_drewN (Below.refl _ _) n⟩
def tmarkTxOp (z : Int) : Tx := ⟨-1000 - z, 0, 0, 0⟩
def TwinTxOpPost (l : List Tx) (w : World) (e : Ending) (w' : World) : Prop :=
  ∃ g, w.heap.size ≤ g ∧ e = .returned (.slice (some ⟨g, 0, none⟩) l.length (l.length + 2)) ∧ w'.heap[g]? = some (.cells ((l ++ [tmarkTxOp l.length, tmarkTxOp (l.length + 1)]).flatMap encTxD).toArray 88 (0, 0)) ∧ Below w.heap.size w w'
theorem twInfoTxOp : (Tryz.prog.info? 88).map (fun i => (i.zero, i.size, i.bytes)) = some (some (.agg #[Value.int .i64 0, Value.int .u8 0, Value.int .i64 0, Value.int .i64 0]), 4, 32) := by kernel_rfl
theorem twSizeTxOp : (Tryz.prog.info? 88).map (·.size) = some 4 := by kernel_rfl
theorem one_encTxL {l : List Tx} : ∀ v ∈ l.flatMap encTxD, v.oneCell' = true := by
  intro v hv
  obtain ⟨x, _, hx⟩ := List.mem_flatMap.1 hv
  simp [encTxD] at hx
  rcases hx with rfl | rfl | rfl | rfl <;> rfl
theorem set4TxOp (A R : List Value) (a0 a1 a2 a3 x0 x1 x2 x3 : Value) (i : Nat) (hi : A.length = i) : (((((A ++ a0 :: a1 :: a2 :: a3 :: R).toArray.setIfInBounds (i) x0).setIfInBounds (i + 1) x1).setIfInBounds (i + 2) x2).setIfInBounds (i + 3) x3) = (A ++ x0 :: x1 :: x2 :: x3 :: R).toArray := by
  subst hi
  simp [List.setIfInBounds_toArray, List.set_append]
def twTxOp (l : List Tx) : Nat → List Value
  | 0 => l.flatMap encTxD ++ [Value.int .i64 0, Value.int .u8 0, Value.int .i64 0, Value.int .i64 0, Value.int .i64 0, Value.int .u8 0, Value.int .i64 0, Value.int .i64 0]
  | 1 => l.flatMap encTxD ++ [Value.int .i64 (-1000 - (l.length : Int)), Value.int .u8 0, Value.int .i64 0, Value.int .i64 0, Value.int .i64 0, Value.int .u8 0, Value.int .i64 0, Value.int .i64 0]
  | _ => l.flatMap encTxD ++ [Value.int .i64 (-1000 - (l.length : Int)), Value.int .u8 0, Value.int .i64 0, Value.int .i64 0, Value.int .i64 (-1000 - ((l.length : Int) + 1)), Value.int .u8 0, Value.int .i64 0, Value.int .i64 0]
theorem twTxOp_two (l : List Tx) : twTxOp l 2 = (l ++ [tmarkTxOp l.length, tmarkTxOp (l.length + 1)]).flatMap encTxD := by simp [twTxOp, encTxD, tmarkTxOp]
theorem twTxOp_split (l : List Tx) (k : Nat) (hk : k < 2) : ∃ A R, A.length = (l.length + k) * 4 ∧ twTxOp l k = A ++ Value.int .i64 0 :: Value.int .u8 0 :: Value.int .i64 0 :: Value.int .i64 0 :: R ∧ twTxOp l (k + 1) = A ++ Value.int .i64 (-1000 - ((l.length + k : Nat) : Int)) :: Value.int .u8 0 :: Value.int .i64 0 :: Value.int .i64 0 :: R := by
  have hl := flat_len encTxD_len l
  match k, hk with
  | 0, _ => exact ⟨l.flatMap encTxD, [Value.int .i64 0, Value.int .u8 0, Value.int .i64 0, Value.int .i64 0], by simpa using hl, rfl, rfl⟩
  | 1, _ => exact ⟨l.flatMap encTxD ++ [Value.int .i64 (-1000 - (l.length : Int)), Value.int .u8 0, Value.int .i64 0, Value.int .i64 0], [], by simp [hl]; omega, by simp [twTxOp], by simp [twTxOp]⟩
theorem twinTxOps_any {w : World} {ao : Option Addr} {ca : Nat} {l : List Tx} (ha : RdT encTxD w 4 (.slice ao l.length ca) l) (hm : l.length ≤ 262144) :
    Calls Tryz.prog 17 #[.slice ao l.length ca] w (TwinTxOpPost l w) := by
  obtain ⟨i0, hi, hz0, hz1, hz2⟩ := info_parts twInfoTxOp
  have HA := hidI ha
  clear ha
  go_enter Tryz.func17, Tryz.ntmps17
  go_wp2_with (at_make; refine wpList_make_s _ rfl _ _ 71 rfl 88 i0 _ 4 [Value.int .i64 0, Value.int .u8 0, Value.int .i64 0, Value.int .i64 0] Tryz.underlying71 hi hz0 hz1 rfl rfl (by decide) _ _ _ _ l.length (l.length + 2) rfl rfl rfl ?b0 ?b1 ?b2 ?b3 ?_)
  case b0 => omega
  case b1 => omega
  case b2 => rw [hz2]; omega
  case b3 => unfold maxLen; omega
  intro w1 hg1 hs1 hb1
  have HG1 := hidI hg1
  clear hg1
  have hrd : Rd w1 4 (.slice ao l.length ca) l.length (l.flatMap encTxD) := HA.out.below hb1
  have HRD := hidI hrd
  clear hrd
  go_wp2_with (refine wpList_copy_s (o := ⟨some 14, _, _, _, _, _⟩) rfl _ _ 71 71 rfl 88 4 Tryz.underlying71 twSizeTxOp w.heap.size l.length (l.length + 2) _ (l.flatMap encTxD) rfl rfl HRD.out _ _ HG1.out ?d1 one_encTxL ?_)
  case d1 => rw [flat_len encTxD_len]; first | (simp; done) | (simp; omega)
  intro w2 hg2 hs2 hc2
  have hg2' : w2.heap[w.heap.size]? = some (.cells (l.flatMap encTxD ++ [Value.int .i64 0, Value.int .u8 0, Value.int .i64 0, Value.int .i64 0, Value.int .i64 0, Value.int .u8 0, Value.int .i64 0, Value.int .i64 0]).toArray 88 (0, 0)) := by
    rw [hg2]
    rw [← List.replicate_append_replicate, List.flatten_append, List.drop_append_of_le_length (by simp), List.drop_of_length_le (by simp)]
    rfl
  have HG2 := hidI hg2'
  have HB2 := hidI (hc2.below hb1 (by omega) (by rintro k rfl; exact Nat.le_refl _))
  clear hg2 hg2' HG1 HRD hc2
  go_wp2_with fail
  go_loopw [5] (fun i wr => ∃ k : Nat, k ≤ 2 ∧ i = .int .i64 ((l.length + k : Nat) : Int) ∧ wr.heap[w.heap.size]? = some (.cells (twTxOp l k).toArray 88 (0, 0)) ∧ Below w.heap.size w wr ∧ w.heap.size < wr.heap.size) (fun i _ => l.length + 2 - (intOf i).toNat)
  case atStart => exact ⟨0, by omega, rfl, HG2.out, HB2.out, by omega⟩
  case round =>
    obtain ⟨k, hk, rfl, hblk, hbr, hsr⟩ := hrel
    by_cases h0 : k < 2
    · obtain ⟨A, R, hA, t1, t2⟩ := twTxOp_split l k h0
      rw [t1] at hblk
      have HA' := hidI hA
      have HH := hblk
      have d0 : wr.cell? ⟨w.heap.size, (l.length + k) * 4, none⟩ = some (Value.int .i64 0) := cell_of_block HH (by have hA9 := HA'.out; rw [List.getElem?_toArray, List.getElem?_append_right (by omega)]; simp [hA9])
      have f0 := free_of_block (o := (l.length + k) * 4) HH
      have d1 : wr.cell? ⟨w.heap.size, (l.length + k) * 4 + 1, none⟩ = some (Value.int .u8 0) := cell_of_block HH (by have hA9 := HA'.out; rw [List.getElem?_toArray, List.getElem?_append_right (by omega)]; simp [hA9])
      have f1 := free_of_block (o := (l.length + k) * 4 + 1) HH
      have d2 : wr.cell? ⟨w.heap.size, (l.length + k) * 4 + 2, none⟩ = some (Value.int .i64 0) := cell_of_block HH (by have hA9 := HA'.out; rw [List.getElem?_toArray, List.getElem?_append_right (by omega)]; simp [hA9])
      have f2 := free_of_block (o := (l.length + k) * 4 + 2) HH
      have d3 : wr.cell? ⟨w.heap.size, (l.length + k) * 4 + 3, none⟩ = some (Value.int .i64 0) := cell_of_block HH (by have hA9 := HA'.out; rw [List.getElem?_toArray, List.getElem?_append_right (by omega)]; simp [hA9])
      have f3 := free_of_block (o := (l.length + k) * 4 + 3) HH
      have HK := hidI hblk
      have HT := hidI t2
      clear hblk hA t1 t2 HH
      go_wp2_with fail
      refine (markTxOp_lit _ ((l.length + k : Nat) : Int) ⟨by omega, by omega⟩).mono ?_
      rintro e w3 ⟨rfl, hb3⟩
      have HH := blk hb3 HK.out
      clear d0 f0 d1 f1 d2 f2 d3 f3
      have d0 : w3.cell? ⟨w.heap.size, (l.length + k) * 4, none⟩ = some (Value.int .i64 0) := cell_of_block HH (by have hA9 := HA'.out; rw [List.getElem?_toArray, List.getElem?_append_right (by omega)]; simp [hA9])
      have f0 := free_of_block (o := (l.length + k) * 4) HH
      have d1 : w3.cell? ⟨w.heap.size, (l.length + k) * 4 + 1, none⟩ = some (Value.int .u8 0) := cell_of_block HH (by have hA9 := HA'.out; rw [List.getElem?_toArray, List.getElem?_append_right (by omega)]; simp [hA9])
      have f1 := free_of_block (o := (l.length + k) * 4 + 1) HH
      have d2 : w3.cell? ⟨w.heap.size, (l.length + k) * 4 + 2, none⟩ = some (Value.int .i64 0) := cell_of_block HH (by have hA9 := HA'.out; rw [List.getElem?_toArray, List.getElem?_append_right (by omega)]; simp [hA9])
      have f2 := free_of_block (o := (l.length + k) * 4 + 2) HH
      have d3 : w3.cell? ⟨w.heap.size, (l.length + k) * 4 + 3, none⟩ = some (Value.int .i64 0) := cell_of_block HH (by have hA9 := HA'.out; rw [List.getElem?_toArray, List.getElem?_append_right (by omega)]; simp [hA9])
      have f3 := free_of_block (o := (l.length + k) * 4 + 3) HH
      have HG3 := hidI HH
      clear HH
      go_wp2_with fail
      refine ⟨⟨k + 1, by omega, by go_num, ?_, (((((hbr.trans (hb3.mono hbr.size)).setCell (Nat.le_refl _) _).setCell (Nat.le_refl _) _).setCell (Nat.le_refl _) _).setCell (Nat.le_refl _) _), by have := hb3.size; simp [World.setCell]; omega⟩, by simp [intOf]; omega⟩
      rw [HT.out, ← set4TxOp A R (Value.int .i64 0) (Value.int .u8 0) (Value.int .i64 0) (Value.int .i64 0) _ _ _ _ _ HA'.out]
      exact block_setCell _ (block_setCell _ (block_setCell _ (block_setCell _ (HG3.out))))
    · obtain rfl : k = 2 := by omega
      have HK := hidI hblk
      clear hblk
      go_wp2
      go_ret
      exact ⟨w.heap.size, Nat.le_refl _, rfl, by rw [← twTxOp_two]; exact HK.out, hbr⟩
theorem headTxOps {w : World} {g : Nat} {t : TypeId} {l m : List Tx} {c : Nat} (h : w.heap[g]? = some (.cells ((l ++ m).flatMap encTxD).toArray t (0, 0))) (hc : l.length ≤ c) : RdT encTxD w 4 (.slice (some ⟨g, 0, none⟩) l.length c) l := by
  refine ⟨flat_len encTxD_len l, _, _, rfl, hc, fun _ => ⟨g, 0, rfl, lt_of_block h, fun j u hj => ?_⟩⟩
  rw [Nat.zero_add]
  refine cell_of_block h ?_
  have hlt := (List.getElem?_eq_some_iff.1 hj).1
  simp only [List.getElem?_toArray, List.flatMap_append]
  rw [List.getElem?_append_left hlt]
  exact hj
theorem leftTxOps_true {w : World} {g : Nat} {bo : Option Addr} {cb : Nat} {l : List Tx} (hg : w.heap[g]? = some (.cells ((l ++ [tmarkTxOp l.length, tmarkTxOp (l.length + 1)]).flatMap encTxD).toArray 88 (0, 0)))
    (hb : RdT encTxD w 4 (.slice bo l.length cb) l) (hm : l.length ≤ 262144) :
    Calls Tryz.prog 21 #[.slice (some ⟨g, 0, none⟩) l.length (l.length + 2), .slice bo l.length cb] w fun e w' => e = .returned (.bool true) ∧ Below w.heap.size w w' := by
  have HG := hidI hg
  have HB := hidI hb
  clear hg hb
  go_enter Tryz.func21, Tryz.ntmps21
  go_wp2_with fail
  go_loopw [6] (fun i wr => ∃ k : Nat, k ≤ 2 ∧ i = .int .i64 ((l.length + k : Nat) : Int) ∧ Below w.heap.size w wr) (fun i _ => l.length + 2 - (intOf i).toNat)
  case atStart => exact ⟨0, by omega, rfl, Below.refl _ _⟩
  case round =>
    obtain ⟨k, hk, rfl, hbr⟩ := hrel
    have HBR := hidI hbr
    clear hbr
    by_cases h0 : k < 2
    · have hx : (l ++ [tmarkTxOp l.length, tmarkTxOp (l.length + 1)])[l.length + k]? = some (tmarkTxOp ((l.length + k : Nat) : Int)) := by
        rcases (by omega : k = 0 ∨ k = 1) with rfl | rfl
        · simp
        · simp
      have d0 : wr.cell? ⟨g, (l.length + k) * 4, none⟩ = some (Value.int .i64 (-1000 - ((l.length + k : Nat) : Int))) := cell_of_block (blk HBR.out HG.out) (by have := flat_at encTxD_len _ hx 0 _ rfl; simpa [tmarkTxOp] using this)
      have d1 : wr.cell? ⟨g, (l.length + k) * 4 + 1, none⟩ = some (Value.int .u8 0) := cell_of_block (blk HBR.out HG.out) (by have := flat_at encTxD_len _ hx 1 _ rfl; simpa [tmarkTxOp] using this)
      have d2 : wr.cell? ⟨g, (l.length + k) * 4 + 2, none⟩ = some (Value.int .i64 0) := cell_of_block (blk HBR.out HG.out) (by have := flat_at encTxD_len _ hx 2 _ rfl; simpa [tmarkTxOp] using this)
      have d3 : wr.cell? ⟨g, (l.length + k) * 4 + 3, none⟩ = some (Value.int .i64 0) := cell_of_block (blk HBR.out HG.out) (by have := flat_at encTxD_len _ hx 3 _ rfl; simpa [tmarkTxOp] using this)
      clear hx
      go_wp2_with fail
      refine (isTxOp_any _ ((l.length + k : Nat) : Int) ⟨by omega, by omega⟩).mono ?_
      rintro e w3 ⟨rfl, hb3⟩
      have HB3 := hidI (HBR.out.trans (hb3.mono HBR.out.size))
      clear hb3
      go_wp2_with fail
      exact ⟨⟨k + 1, by omega, by go_num, HB3.out⟩, by simp [intOf]; omega⟩
    · obtain rfl : k = 2 := by omega
      go_wp2_with fail
      refine (sameTxOps_true (l := l) (headTxOps (blk HBR.out HG.out) (by omega)) (Rd.below HB.out HBR.out) (by omega)).mono ?_
      rintro e w3 ⟨rfl, hb3⟩
      have HB3 := hidI (HBR.out.trans (hb3.mono HBR.out.size))
      clear hb3
      go_wp2_with fail
      go_ret
      exact ⟨rfl, HB3.out⟩
end Go.Proofs.YtgodmogkhgilmaaGreatDoor

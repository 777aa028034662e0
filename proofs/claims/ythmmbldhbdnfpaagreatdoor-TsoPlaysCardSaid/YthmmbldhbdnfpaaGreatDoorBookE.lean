/- turnstilelaw01.Book: what its calls do over kinds of which it has no list. (Written by mkbooke.py.) -/
import Derived.Test.YthmmbldhbdnfpaaGreatDoorMBase
namespace Go.Proofs.YthmmbldhbdnfpaaGreatDoor
open Go.RowKit
set_option linter.unusedVariables false
set_option linter.unusedSimpArgs false

variable {w : World} {kb : Nat} {C : Array Value}

theorem fillNumber_no (hb : w.heap[kb]? = some (.cells C 92 (0, 0))) (hc : C[2]? = some (.slice none 0 0)) : Calls Tryz.prog 82 #[.pointer (some ⟨kb, 0, none⟩)] w fun e w' => e = .returned (.tuple #[]) ∧ w' = w := by
  have c := cell_of_block hb hc
  clear hb hc
  go_enter Tryz.func82, Tryz.ntmps82
  go_wp2_with fail
  go_loopw [10] (fun i w' => i = .int .i64 0 ∧ w' = w) (fun _ _ => 0)
  case atStart => exact ⟨rfl, rfl⟩
  case round =>
    obtain ⟨rfl, rfl⟩ := hrel
    go_wp2_with fail
    go_end0
    exact ⟨rfl, rfl⟩

theorem growNumber_no (hb : w.heap[kb]? = some (.cells C 92 (0, 0))) (hc : C[2]? = some (.slice none 0 0)) : Calls Tryz.prog 108 #[.pointer (some ⟨kb, 0, none⟩)] w fun e w' => e = .returned (.tuple #[]) ∧ w' = w := by
  have c := cell_of_block hb hc
  clear hb hc
  go_enter Tryz.func108, Tryz.ntmps108
  go_wp2_with fail
  go_loopw [10] (fun i w' => i = .int .i64 0 ∧ w' = w) (fun _ _ => 0)
  case atStart => exact ⟨rfl, rfl⟩
  case round =>
    obtain ⟨rfl, rfl⟩ := hrel
    go_wp2_with fail
    go_end0
    exact ⟨rfl, rfl⟩

theorem lookNumber_no (hb : w.heap[kb]? = some (.cells C 92 (0, 0))) (hc : C[2]? = some (.slice none 0 0)) : Calls Tryz.prog 135 #[.pointer (some ⟨kb, 0, none⟩)] w fun e w' => e = .returned (.bool true) ∧ w' = w := by
  have c := cell_of_block hb hc
  clear hb hc
  go_enter Tryz.func135, Tryz.ntmps135
  go_wp2_with fail
  go_loopw [12] (fun i w' => i = .int .i64 0 ∧ w' = w) (fun _ _ => 0)
  case atStart => exact ⟨rfl, rfl⟩
  case round =>
    obtain ⟨rfl, rfl⟩ := hrel
    go_wp2_with fail
    go_ret
    exact ⟨rfl, rfl⟩

theorem fillWide_no (hb : w.heap[kb]? = some (.cells C 92 (0, 0))) (hc : C[3]? = some (.slice none 0 0)) : Calls Tryz.prog 83 #[.pointer (some ⟨kb, 0, none⟩)] w fun e w' => e = .returned (.tuple #[]) ∧ w' = w := by
  have c := cell_of_block hb hc
  clear hb hc
  go_enter Tryz.func83, Tryz.ntmps83
  go_wp2_with fail
  go_loopw [10] (fun i w' => i = .int .i64 0 ∧ w' = w) (fun _ _ => 0)
  case atStart => exact ⟨rfl, rfl⟩
  case round =>
    obtain ⟨rfl, rfl⟩ := hrel
    go_wp2_with fail
    go_end0
    exact ⟨rfl, rfl⟩

theorem growWide_no (hb : w.heap[kb]? = some (.cells C 92 (0, 0))) (hc : C[3]? = some (.slice none 0 0)) : Calls Tryz.prog 109 #[.pointer (some ⟨kb, 0, none⟩)] w fun e w' => e = .returned (.tuple #[]) ∧ w' = w := by
  have c := cell_of_block hb hc
  clear hb hc
  go_enter Tryz.func109, Tryz.ntmps109
  go_wp2_with fail
  go_loopw [10] (fun i w' => i = .int .i64 0 ∧ w' = w) (fun _ _ => 0)
  case atStart => exact ⟨rfl, rfl⟩
  case round =>
    obtain ⟨rfl, rfl⟩ := hrel
    go_wp2_with fail
    go_end0
    exact ⟨rfl, rfl⟩

theorem lookWide_no (hb : w.heap[kb]? = some (.cells C 92 (0, 0))) (hc : C[3]? = some (.slice none 0 0)) : Calls Tryz.prog 136 #[.pointer (some ⟨kb, 0, none⟩)] w fun e w' => e = .returned (.bool true) ∧ w' = w := by
  have c := cell_of_block hb hc
  clear hb hc
  go_enter Tryz.func136, Tryz.ntmps136
  go_wp2_with fail
  go_loopw [12] (fun i w' => i = .int .i64 0 ∧ w' = w) (fun _ _ => 0)
  case atStart => exact ⟨rfl, rfl⟩
  case round =>
    obtain ⟨rfl, rfl⟩ := hrel
    go_wp2_with fail
    go_ret
    exact ⟨rfl, rfl⟩

theorem fillText_no (hb : w.heap[kb]? = some (.cells C 92 (0, 0))) (hc : C[4]? = some (.slice none 0 0)) : Calls Tryz.prog 84 #[.pointer (some ⟨kb, 0, none⟩)] w fun e w' => e = .returned (.tuple #[]) ∧ w' = w := by
  have c := cell_of_block hb hc
  clear hb hc
  go_enter Tryz.func84, Tryz.ntmps84
  go_wp2_with fail
  go_loopw [10] (fun i w' => i = .int .i64 0 ∧ w' = w) (fun _ _ => 0)
  case atStart => exact ⟨rfl, rfl⟩
  case round =>
    obtain ⟨rfl, rfl⟩ := hrel
    go_wp2_with fail
    go_end0
    exact ⟨rfl, rfl⟩

theorem growText_no (hb : w.heap[kb]? = some (.cells C 92 (0, 0))) (hc : C[4]? = some (.slice none 0 0)) : Calls Tryz.prog 110 #[.pointer (some ⟨kb, 0, none⟩)] w fun e w' => e = .returned (.tuple #[]) ∧ w' = w := by
  have c := cell_of_block hb hc
  clear hb hc
  go_enter Tryz.func110, Tryz.ntmps110
  go_wp2_with fail
  go_loopw [10] (fun i w' => i = .int .i64 0 ∧ w' = w) (fun _ _ => 0)
  case atStart => exact ⟨rfl, rfl⟩
  case round =>
    obtain ⟨rfl, rfl⟩ := hrel
    go_wp2_with fail
    go_end0
    exact ⟨rfl, rfl⟩

theorem lookText_no (hb : w.heap[kb]? = some (.cells C 92 (0, 0))) (hc : C[4]? = some (.slice none 0 0)) : Calls Tryz.prog 137 #[.pointer (some ⟨kb, 0, none⟩)] w fun e w' => e = .returned (.bool true) ∧ w' = w := by
  have c := cell_of_block hb hc
  clear hb hc
  go_enter Tryz.func137, Tryz.ntmps137
  go_wp2_with fail
  go_loopw [12] (fun i w' => i = .int .i64 0 ∧ w' = w) (fun _ _ => 0)
  case atStart => exact ⟨rfl, rfl⟩
  case round =>
    obtain ⟨rfl, rfl⟩ := hrel
    go_wp2_with fail
    go_ret
    exact ⟨rfl, rfl⟩

theorem fillCell_no (hb : w.heap[kb]? = some (.cells C 92 (0, 0))) (hc : C[5]? = some (.slice none 0 0)) : Calls Tryz.prog 85 #[.pointer (some ⟨kb, 0, none⟩)] w fun e w' => e = .returned (.tuple #[]) ∧ w' = w := by
  have c := cell_of_block hb hc
  clear hb hc
  go_enter Tryz.func85, Tryz.ntmps85
  go_wp2_with fail
  go_loopw [10] (fun i w' => i = .int .i64 0 ∧ w' = w) (fun _ _ => 0)
  case atStart => exact ⟨rfl, rfl⟩
  case round =>
    obtain ⟨rfl, rfl⟩ := hrel
    go_wp2_with fail
    go_end0
    exact ⟨rfl, rfl⟩

theorem growCell_no (hb : w.heap[kb]? = some (.cells C 92 (0, 0))) (hc : C[5]? = some (.slice none 0 0)) : Calls Tryz.prog 111 #[.pointer (some ⟨kb, 0, none⟩)] w fun e w' => e = .returned (.tuple #[]) ∧ w' = w := by
  have c := cell_of_block hb hc
  clear hb hc
  go_enter Tryz.func111, Tryz.ntmps111
  go_wp2_with fail
  go_loopw [10] (fun i w' => i = .int .i64 0 ∧ w' = w) (fun _ _ => 0)
  case atStart => exact ⟨rfl, rfl⟩
  case round =>
    obtain ⟨rfl, rfl⟩ := hrel
    go_wp2_with fail
    go_end0
    exact ⟨rfl, rfl⟩

theorem lookCell_no (hb : w.heap[kb]? = some (.cells C 92 (0, 0))) (hc : C[5]? = some (.slice none 0 0)) : Calls Tryz.prog 138 #[.pointer (some ⟨kb, 0, none⟩)] w fun e w' => e = .returned (.bool true) ∧ w' = w := by
  have c := cell_of_block hb hc
  clear hb hc
  go_enter Tryz.func138, Tryz.ntmps138
  go_wp2_with fail
  go_loopw [12] (fun i w' => i = .int .i64 0 ∧ w' = w) (fun _ _ => 0)
  case atStart => exact ⟨rfl, rfl⟩
  case round =>
    obtain ⟨rfl, rfl⟩ := hrel
    go_wp2_with fail
    go_ret
    exact ⟨rfl, rfl⟩

theorem fillIns_no (hb : w.heap[kb]? = some (.cells C 92 (0, 0))) (hc : C[6]? = some (.slice none 0 0)) : Calls Tryz.prog 86 #[.pointer (some ⟨kb, 0, none⟩)] w fun e w' => e = .returned (.tuple #[]) ∧ w' = w := by
  have c := cell_of_block hb hc
  clear hb hc
  go_enter Tryz.func86, Tryz.ntmps86
  go_wp2_with fail
  go_loopw [10] (fun i w' => i = .int .i64 0 ∧ w' = w) (fun _ _ => 0)
  case atStart => exact ⟨rfl, rfl⟩
  case round =>
    obtain ⟨rfl, rfl⟩ := hrel
    go_wp2_with fail
    go_end0
    exact ⟨rfl, rfl⟩

theorem growIns_no (hb : w.heap[kb]? = some (.cells C 92 (0, 0))) (hc : C[6]? = some (.slice none 0 0)) : Calls Tryz.prog 112 #[.pointer (some ⟨kb, 0, none⟩)] w fun e w' => e = .returned (.tuple #[]) ∧ w' = w := by
  have c := cell_of_block hb hc
  clear hb hc
  go_enter Tryz.func112, Tryz.ntmps112
  go_wp2_with fail
  go_loopw [10] (fun i w' => i = .int .i64 0 ∧ w' = w) (fun _ _ => 0)
  case atStart => exact ⟨rfl, rfl⟩
  case round =>
    obtain ⟨rfl, rfl⟩ := hrel
    go_wp2_with fail
    go_end0
    exact ⟨rfl, rfl⟩

theorem lookIns_no (hb : w.heap[kb]? = some (.cells C 92 (0, 0))) (hc : C[6]? = some (.slice none 0 0)) : Calls Tryz.prog 139 #[.pointer (some ⟨kb, 0, none⟩)] w fun e w' => e = .returned (.bool true) ∧ w' = w := by
  have c := cell_of_block hb hc
  clear hb hc
  go_enter Tryz.func139, Tryz.ntmps139
  go_wp2_with fail
  go_loopw [12] (fun i w' => i = .int .i64 0 ∧ w' = w) (fun _ _ => 0)
  case atStart => exact ⟨rfl, rfl⟩
  case round =>
    obtain ⟨rfl, rfl⟩ := hrel
    go_wp2_with fail
    go_ret
    exact ⟨rfl, rfl⟩

theorem fillOp_no (hb : w.heap[kb]? = some (.cells C 92 (0, 0))) (hc : C[7]? = some (.slice none 0 0)) : Calls Tryz.prog 87 #[.pointer (some ⟨kb, 0, none⟩)] w fun e w' => e = .returned (.tuple #[]) ∧ w' = w := by
  have c := cell_of_block hb hc
  clear hb hc
  go_enter Tryz.func87, Tryz.ntmps87
  go_wp2_with fail
  go_loopw [10] (fun i w' => i = .int .i64 0 ∧ w' = w) (fun _ _ => 0)
  case atStart => exact ⟨rfl, rfl⟩
  case round =>
    obtain ⟨rfl, rfl⟩ := hrel
    go_wp2_with fail
    go_end0
    exact ⟨rfl, rfl⟩

theorem growOp_no (hb : w.heap[kb]? = some (.cells C 92 (0, 0))) (hc : C[7]? = some (.slice none 0 0)) : Calls Tryz.prog 113 #[.pointer (some ⟨kb, 0, none⟩)] w fun e w' => e = .returned (.tuple #[]) ∧ w' = w := by
  have c := cell_of_block hb hc
  clear hb hc
  go_enter Tryz.func113, Tryz.ntmps113
  go_wp2_with fail
  go_loopw [10] (fun i w' => i = .int .i64 0 ∧ w' = w) (fun _ _ => 0)
  case atStart => exact ⟨rfl, rfl⟩
  case round =>
    obtain ⟨rfl, rfl⟩ := hrel
    go_wp2_with fail
    go_end0
    exact ⟨rfl, rfl⟩

theorem lookOp_no (hb : w.heap[kb]? = some (.cells C 92 (0, 0))) (hc : C[7]? = some (.slice none 0 0)) : Calls Tryz.prog 140 #[.pointer (some ⟨kb, 0, none⟩)] w fun e w' => e = .returned (.bool true) ∧ w' = w := by
  have c := cell_of_block hb hc
  clear hb hc
  go_enter Tryz.func140, Tryz.ntmps140
  go_wp2_with fail
  go_loopw [12] (fun i w' => i = .int .i64 0 ∧ w' = w) (fun _ _ => 0)
  case atStart => exact ⟨rfl, rfl⟩
  case round =>
    obtain ⟨rfl, rfl⟩ := hrel
    go_wp2_with fail
    go_ret
    exact ⟨rfl, rfl⟩

theorem fillEvent_no (hb : w.heap[kb]? = some (.cells C 92 (0, 0))) (hc : C[8]? = some (.slice none 0 0)) : Calls Tryz.prog 88 #[.pointer (some ⟨kb, 0, none⟩)] w fun e w' => e = .returned (.tuple #[]) ∧ w' = w := by
  have c := cell_of_block hb hc
  clear hb hc
  go_enter Tryz.func88, Tryz.ntmps88
  go_wp2_with fail
  go_loopw [10] (fun i w' => i = .int .i64 0 ∧ w' = w) (fun _ _ => 0)
  case atStart => exact ⟨rfl, rfl⟩
  case round =>
    obtain ⟨rfl, rfl⟩ := hrel
    go_wp2_with fail
    go_end0
    exact ⟨rfl, rfl⟩

theorem growEvent_no (hb : w.heap[kb]? = some (.cells C 92 (0, 0))) (hc : C[8]? = some (.slice none 0 0)) : Calls Tryz.prog 114 #[.pointer (some ⟨kb, 0, none⟩)] w fun e w' => e = .returned (.tuple #[]) ∧ w' = w := by
  have c := cell_of_block hb hc
  clear hb hc
  go_enter Tryz.func114, Tryz.ntmps114
  go_wp2_with fail
  go_loopw [10] (fun i w' => i = .int .i64 0 ∧ w' = w) (fun _ _ => 0)
  case atStart => exact ⟨rfl, rfl⟩
  case round =>
    obtain ⟨rfl, rfl⟩ := hrel
    go_wp2_with fail
    go_end0
    exact ⟨rfl, rfl⟩

theorem lookEvent_no (hb : w.heap[kb]? = some (.cells C 92 (0, 0))) (hc : C[8]? = some (.slice none 0 0)) : Calls Tryz.prog 141 #[.pointer (some ⟨kb, 0, none⟩)] w fun e w' => e = .returned (.bool true) ∧ w' = w := by
  have c := cell_of_block hb hc
  clear hb hc
  go_enter Tryz.func141, Tryz.ntmps141
  go_wp2_with fail
  go_loopw [12] (fun i w' => i = .int .i64 0 ∧ w' = w) (fun _ _ => 0)
  case atStart => exact ⟨rfl, rfl⟩
  case round =>
    obtain ⟨rfl, rfl⟩ := hrel
    go_wp2_with fail
    go_ret
    exact ⟨rfl, rfl⟩

theorem fillPick_no (hb : w.heap[kb]? = some (.cells C 92 (0, 0))) (hc : C[9]? = some (.slice none 0 0)) : Calls Tryz.prog 89 #[.pointer (some ⟨kb, 0, none⟩)] w fun e w' => e = .returned (.tuple #[]) ∧ w' = w := by
  have c := cell_of_block hb hc
  clear hb hc
  go_enter Tryz.func89, Tryz.ntmps89
  go_wp2_with fail
  go_loopw [10] (fun i w' => i = .int .i64 0 ∧ w' = w) (fun _ _ => 0)
  case atStart => exact ⟨rfl, rfl⟩
  case round =>
    obtain ⟨rfl, rfl⟩ := hrel
    go_wp2_with fail
    go_end0
    exact ⟨rfl, rfl⟩

theorem growPick_no (hb : w.heap[kb]? = some (.cells C 92 (0, 0))) (hc : C[9]? = some (.slice none 0 0)) : Calls Tryz.prog 115 #[.pointer (some ⟨kb, 0, none⟩)] w fun e w' => e = .returned (.tuple #[]) ∧ w' = w := by
  have c := cell_of_block hb hc
  clear hb hc
  go_enter Tryz.func115, Tryz.ntmps115
  go_wp2_with fail
  go_loopw [10] (fun i w' => i = .int .i64 0 ∧ w' = w) (fun _ _ => 0)
  case atStart => exact ⟨rfl, rfl⟩
  case round =>
    obtain ⟨rfl, rfl⟩ := hrel
    go_wp2_with fail
    go_end0
    exact ⟨rfl, rfl⟩

theorem lookPick_no (hb : w.heap[kb]? = some (.cells C 92 (0, 0))) (hc : C[9]? = some (.slice none 0 0)) : Calls Tryz.prog 142 #[.pointer (some ⟨kb, 0, none⟩)] w fun e w' => e = .returned (.bool true) ∧ w' = w := by
  have c := cell_of_block hb hc
  clear hb hc
  go_enter Tryz.func142, Tryz.ntmps142
  go_wp2_with fail
  go_loopw [12] (fun i w' => i = .int .i64 0 ∧ w' = w) (fun _ _ => 0)
  case atStart => exact ⟨rfl, rfl⟩
  case round =>
    obtain ⟨rfl, rfl⟩ := hrel
    go_wp2_with fail
    go_ret
    exact ⟨rfl, rfl⟩

theorem fillPlace_no (hb : w.heap[kb]? = some (.cells C 92 (0, 0))) (hc : C[10]? = some (.slice none 0 0)) : Calls Tryz.prog 90 #[.pointer (some ⟨kb, 0, none⟩)] w fun e w' => e = .returned (.tuple #[]) ∧ w' = w := by
  have c := cell_of_block hb hc
  clear hb hc
  go_enter Tryz.func90, Tryz.ntmps90
  go_wp2_with fail
  go_loopw [10] (fun i w' => i = .int .i64 0 ∧ w' = w) (fun _ _ => 0)
  case atStart => exact ⟨rfl, rfl⟩
  case round =>
    obtain ⟨rfl, rfl⟩ := hrel
    go_wp2_with fail
    go_end0
    exact ⟨rfl, rfl⟩

theorem growPlace_no (hb : w.heap[kb]? = some (.cells C 92 (0, 0))) (hc : C[10]? = some (.slice none 0 0)) : Calls Tryz.prog 116 #[.pointer (some ⟨kb, 0, none⟩)] w fun e w' => e = .returned (.tuple #[]) ∧ w' = w := by
  have c := cell_of_block hb hc
  clear hb hc
  go_enter Tryz.func116, Tryz.ntmps116
  go_wp2_with fail
  go_loopw [10] (fun i w' => i = .int .i64 0 ∧ w' = w) (fun _ _ => 0)
  case atStart => exact ⟨rfl, rfl⟩
  case round =>
    obtain ⟨rfl, rfl⟩ := hrel
    go_wp2_with fail
    go_end0
    exact ⟨rfl, rfl⟩

theorem lookPlace_no (hb : w.heap[kb]? = some (.cells C 92 (0, 0))) (hc : C[10]? = some (.slice none 0 0)) : Calls Tryz.prog 143 #[.pointer (some ⟨kb, 0, none⟩)] w fun e w' => e = .returned (.bool true) ∧ w' = w := by
  have c := cell_of_block hb hc
  clear hb hc
  go_enter Tryz.func143, Tryz.ntmps143
  go_wp2_with fail
  go_loopw [12] (fun i w' => i = .int .i64 0 ∧ w' = w) (fun _ _ => 0)
  case atStart => exact ⟨rfl, rfl⟩
  case round =>
    obtain ⟨rfl, rfl⟩ := hrel
    go_wp2_with fail
    go_ret
    exact ⟨rfl, rfl⟩

theorem fillTxOp_no (hb : w.heap[kb]? = some (.cells C 92 (0, 0))) (hc : C[11]? = some (.slice none 0 0)) : Calls Tryz.prog 91 #[.pointer (some ⟨kb, 0, none⟩)] w fun e w' => e = .returned (.tuple #[]) ∧ w' = w := by
  have c := cell_of_block hb hc
  clear hb hc
  go_enter Tryz.func91, Tryz.ntmps91
  go_wp2_with fail
  go_loopw [10] (fun i w' => i = .int .i64 0 ∧ w' = w) (fun _ _ => 0)
  case atStart => exact ⟨rfl, rfl⟩
  case round =>
    obtain ⟨rfl, rfl⟩ := hrel
    go_wp2_with fail
    go_end0
    exact ⟨rfl, rfl⟩

theorem growTxOp_no (hb : w.heap[kb]? = some (.cells C 92 (0, 0))) (hc : C[11]? = some (.slice none 0 0)) : Calls Tryz.prog 117 #[.pointer (some ⟨kb, 0, none⟩)] w fun e w' => e = .returned (.tuple #[]) ∧ w' = w := by
  have c := cell_of_block hb hc
  clear hb hc
  go_enter Tryz.func117, Tryz.ntmps117
  go_wp2_with fail
  go_loopw [10] (fun i w' => i = .int .i64 0 ∧ w' = w) (fun _ _ => 0)
  case atStart => exact ⟨rfl, rfl⟩
  case round =>
    obtain ⟨rfl, rfl⟩ := hrel
    go_wp2_with fail
    go_end0
    exact ⟨rfl, rfl⟩

theorem lookTxOp_no (hb : w.heap[kb]? = some (.cells C 92 (0, 0))) (hc : C[11]? = some (.slice none 0 0)) : Calls Tryz.prog 144 #[.pointer (some ⟨kb, 0, none⟩)] w fun e w' => e = .returned (.bool true) ∧ w' = w := by
  have c := cell_of_block hb hc
  clear hb hc
  go_enter Tryz.func144, Tryz.ntmps144
  go_wp2_with fail
  go_loopw [12] (fun i w' => i = .int .i64 0 ∧ w' = w) (fun _ _ => 0)
  case atStart => exact ⟨rfl, rfl⟩
  case round =>
    obtain ⟨rfl, rfl⟩ := hrel
    go_wp2_with fail
    go_ret
    exact ⟨rfl, rfl⟩

theorem fillToken_no (hb : w.heap[kb]? = some (.cells C 92 (0, 0))) (hc : C[12]? = some (.slice none 0 0)) : Calls Tryz.prog 92 #[.pointer (some ⟨kb, 0, none⟩)] w fun e w' => e = .returned (.tuple #[]) ∧ w' = w := by
  have c := cell_of_block hb hc
  clear hb hc
  go_enter Tryz.func92, Tryz.ntmps92
  go_wp2_with fail
  go_loopw [10] (fun i w' => i = .int .i64 0 ∧ w' = w) (fun _ _ => 0)
  case atStart => exact ⟨rfl, rfl⟩
  case round =>
    obtain ⟨rfl, rfl⟩ := hrel
    go_wp2_with fail
    go_end0
    exact ⟨rfl, rfl⟩

theorem growToken_no (hb : w.heap[kb]? = some (.cells C 92 (0, 0))) (hc : C[12]? = some (.slice none 0 0)) : Calls Tryz.prog 118 #[.pointer (some ⟨kb, 0, none⟩)] w fun e w' => e = .returned (.tuple #[]) ∧ w' = w := by
  have c := cell_of_block hb hc
  clear hb hc
  go_enter Tryz.func118, Tryz.ntmps118
  go_wp2_with fail
  go_loopw [10] (fun i w' => i = .int .i64 0 ∧ w' = w) (fun _ _ => 0)
  case atStart => exact ⟨rfl, rfl⟩
  case round =>
    obtain ⟨rfl, rfl⟩ := hrel
    go_wp2_with fail
    go_end0
    exact ⟨rfl, rfl⟩

theorem lookToken_no (hb : w.heap[kb]? = some (.cells C 92 (0, 0))) (hc : C[12]? = some (.slice none 0 0)) : Calls Tryz.prog 145 #[.pointer (some ⟨kb, 0, none⟩)] w fun e w' => e = .returned (.bool true) ∧ w' = w := by
  have c := cell_of_block hb hc
  clear hb hc
  go_enter Tryz.func145, Tryz.ntmps145
  go_wp2_with fail
  go_loopw [12] (fun i w' => i = .int .i64 0 ∧ w' = w) (fun _ _ => 0)
  case atStart => exact ⟨rfl, rfl⟩
  case round =>
    obtain ⟨rfl, rfl⟩ := hrel
    go_wp2_with fail
    go_ret
    exact ⟨rfl, rfl⟩

theorem fillField_no (hb : w.heap[kb]? = some (.cells C 92 (0, 0))) (hc : C[13]? = some (.slice none 0 0)) : Calls Tryz.prog 93 #[.pointer (some ⟨kb, 0, none⟩)] w fun e w' => e = .returned (.tuple #[]) ∧ w' = w := by
  have c := cell_of_block hb hc
  clear hb hc
  go_enter Tryz.func93, Tryz.ntmps93
  go_wp2_with fail
  go_loopw [10] (fun i w' => i = .int .i64 0 ∧ w' = w) (fun _ _ => 0)
  case atStart => exact ⟨rfl, rfl⟩
  case round =>
    obtain ⟨rfl, rfl⟩ := hrel
    go_wp2_with fail
    go_end0
    exact ⟨rfl, rfl⟩

theorem growField_no (hb : w.heap[kb]? = some (.cells C 92 (0, 0))) (hc : C[13]? = some (.slice none 0 0)) : Calls Tryz.prog 119 #[.pointer (some ⟨kb, 0, none⟩)] w fun e w' => e = .returned (.tuple #[]) ∧ w' = w := by
  have c := cell_of_block hb hc
  clear hb hc
  go_enter Tryz.func119, Tryz.ntmps119
  go_wp2_with fail
  go_loopw [10] (fun i w' => i = .int .i64 0 ∧ w' = w) (fun _ _ => 0)
  case atStart => exact ⟨rfl, rfl⟩
  case round =>
    obtain ⟨rfl, rfl⟩ := hrel
    go_wp2_with fail
    go_end0
    exact ⟨rfl, rfl⟩

theorem lookField_no (hb : w.heap[kb]? = some (.cells C 92 (0, 0))) (hc : C[13]? = some (.slice none 0 0)) : Calls Tryz.prog 146 #[.pointer (some ⟨kb, 0, none⟩)] w fun e w' => e = .returned (.bool true) ∧ w' = w := by
  have c := cell_of_block hb hc
  clear hb hc
  go_enter Tryz.func146, Tryz.ntmps146
  go_wp2_with fail
  go_loopw [12] (fun i w' => i = .int .i64 0 ∧ w' = w) (fun _ _ => 0)
  case atStart => exact ⟨rfl, rfl⟩
  case round =>
    obtain ⟨rfl, rfl⟩ := hrel
    go_wp2_with fail
    go_ret
    exact ⟨rfl, rfl⟩

theorem fillSpot_no (hb : w.heap[kb]? = some (.cells C 92 (0, 0))) (hc : C[14]? = some (.slice none 0 0)) : Calls Tryz.prog 94 #[.pointer (some ⟨kb, 0, none⟩)] w fun e w' => e = .returned (.tuple #[]) ∧ w' = w := by
  have c := cell_of_block hb hc
  clear hb hc
  go_enter Tryz.func94, Tryz.ntmps94
  go_wp2_with fail
  go_loopw [10] (fun i w' => i = .int .i64 0 ∧ w' = w) (fun _ _ => 0)
  case atStart => exact ⟨rfl, rfl⟩
  case round =>
    obtain ⟨rfl, rfl⟩ := hrel
    go_wp2_with fail
    go_end0
    exact ⟨rfl, rfl⟩

theorem growSpot_no (hb : w.heap[kb]? = some (.cells C 92 (0, 0))) (hc : C[14]? = some (.slice none 0 0)) : Calls Tryz.prog 120 #[.pointer (some ⟨kb, 0, none⟩)] w fun e w' => e = .returned (.tuple #[]) ∧ w' = w := by
  have c := cell_of_block hb hc
  clear hb hc
  go_enter Tryz.func120, Tryz.ntmps120
  go_wp2_with fail
  go_loopw [10] (fun i w' => i = .int .i64 0 ∧ w' = w) (fun _ _ => 0)
  case atStart => exact ⟨rfl, rfl⟩
  case round =>
    obtain ⟨rfl, rfl⟩ := hrel
    go_wp2_with fail
    go_end0
    exact ⟨rfl, rfl⟩

theorem lookSpot_no (hb : w.heap[kb]? = some (.cells C 92 (0, 0))) (hc : C[14]? = some (.slice none 0 0)) : Calls Tryz.prog 147 #[.pointer (some ⟨kb, 0, none⟩)] w fun e w' => e = .returned (.bool true) ∧ w' = w := by
  have c := cell_of_block hb hc
  clear hb hc
  go_enter Tryz.func147, Tryz.ntmps147
  go_wp2_with fail
  go_loopw [12] (fun i w' => i = .int .i64 0 ∧ w' = w) (fun _ _ => 0)
  case atStart => exact ⟨rfl, rfl⟩
  case round =>
    obtain ⟨rfl, rfl⟩ := hrel
    go_wp2_with fail
    go_ret
    exact ⟨rfl, rfl⟩

theorem fillSeen_no (hb : w.heap[kb]? = some (.cells C 92 (0, 0))) (hc : C[15]? = some (.slice none 0 0)) : Calls Tryz.prog 95 #[.pointer (some ⟨kb, 0, none⟩)] w fun e w' => e = .returned (.tuple #[]) ∧ w' = w := by
  have c := cell_of_block hb hc
  clear hb hc
  go_enter Tryz.func95, Tryz.ntmps95
  go_wp2_with fail
  go_loopw [10] (fun i w' => i = .int .i64 0 ∧ w' = w) (fun _ _ => 0)
  case atStart => exact ⟨rfl, rfl⟩
  case round =>
    obtain ⟨rfl, rfl⟩ := hrel
    go_wp2_with fail
    go_end0
    exact ⟨rfl, rfl⟩

theorem growSeen_no (hb : w.heap[kb]? = some (.cells C 92 (0, 0))) (hc : C[15]? = some (.slice none 0 0)) : Calls Tryz.prog 121 #[.pointer (some ⟨kb, 0, none⟩)] w fun e w' => e = .returned (.tuple #[]) ∧ w' = w := by
  have c := cell_of_block hb hc
  clear hb hc
  go_enter Tryz.func121, Tryz.ntmps121
  go_wp2_with fail
  go_loopw [10] (fun i w' => i = .int .i64 0 ∧ w' = w) (fun _ _ => 0)
  case atStart => exact ⟨rfl, rfl⟩
  case round =>
    obtain ⟨rfl, rfl⟩ := hrel
    go_wp2_with fail
    go_end0
    exact ⟨rfl, rfl⟩

theorem lookSeen_no (hb : w.heap[kb]? = some (.cells C 92 (0, 0))) (hc : C[15]? = some (.slice none 0 0)) : Calls Tryz.prog 148 #[.pointer (some ⟨kb, 0, none⟩)] w fun e w' => e = .returned (.bool true) ∧ w' = w := by
  have c := cell_of_block hb hc
  clear hb hc
  go_enter Tryz.func148, Tryz.ntmps148
  go_wp2_with fail
  go_loopw [12] (fun i w' => i = .int .i64 0 ∧ w' = w) (fun _ _ => 0)
  case atStart => exact ⟨rfl, rfl⟩
  case round =>
    obtain ⟨rfl, rfl⟩ := hrel
    go_wp2_with fail
    go_ret
    exact ⟨rfl, rfl⟩

theorem fillExpr_no (hb : w.heap[kb]? = some (.cells C 92 (0, 0))) (hc : C[16]? = some (.slice none 0 0)) : Calls Tryz.prog 96 #[.pointer (some ⟨kb, 0, none⟩)] w fun e w' => e = .returned (.tuple #[]) ∧ w' = w := by
  have c := cell_of_block hb hc
  clear hb hc
  go_enter Tryz.func96, Tryz.ntmps96
  go_wp2_with fail
  go_loopw [10] (fun i w' => i = .int .i64 0 ∧ w' = w) (fun _ _ => 0)
  case atStart => exact ⟨rfl, rfl⟩
  case round =>
    obtain ⟨rfl, rfl⟩ := hrel
    go_wp2_with fail
    go_end0
    exact ⟨rfl, rfl⟩

theorem growExpr_no (hb : w.heap[kb]? = some (.cells C 92 (0, 0))) (hc : C[16]? = some (.slice none 0 0)) : Calls Tryz.prog 122 #[.pointer (some ⟨kb, 0, none⟩)] w fun e w' => e = .returned (.tuple #[]) ∧ w' = w := by
  have c := cell_of_block hb hc
  clear hb hc
  go_enter Tryz.func122, Tryz.ntmps122
  go_wp2_with fail
  go_loopw [10] (fun i w' => i = .int .i64 0 ∧ w' = w) (fun _ _ => 0)
  case atStart => exact ⟨rfl, rfl⟩
  case round =>
    obtain ⟨rfl, rfl⟩ := hrel
    go_wp2_with fail
    go_end0
    exact ⟨rfl, rfl⟩

theorem lookExpr_no (hb : w.heap[kb]? = some (.cells C 92 (0, 0))) (hc : C[16]? = some (.slice none 0 0)) : Calls Tryz.prog 149 #[.pointer (some ⟨kb, 0, none⟩)] w fun e w' => e = .returned (.bool true) ∧ w' = w := by
  have c := cell_of_block hb hc
  clear hb hc
  go_enter Tryz.func149, Tryz.ntmps149
  go_wp2_with fail
  go_loopw [12] (fun i w' => i = .int .i64 0 ∧ w' = w) (fun _ _ => 0)
  case atStart => exact ⟨rfl, rfl⟩
  case round =>
    obtain ⟨rfl, rfl⟩ := hrel
    go_wp2_with fail
    go_ret
    exact ⟨rfl, rfl⟩

theorem fillStmt_no (hb : w.heap[kb]? = some (.cells C 92 (0, 0))) (hc : C[17]? = some (.slice none 0 0)) : Calls Tryz.prog 97 #[.pointer (some ⟨kb, 0, none⟩)] w fun e w' => e = .returned (.tuple #[]) ∧ w' = w := by
  have c := cell_of_block hb hc
  clear hb hc
  go_enter Tryz.func97, Tryz.ntmps97
  go_wp2_with fail
  go_loopw [10] (fun i w' => i = .int .i64 0 ∧ w' = w) (fun _ _ => 0)
  case atStart => exact ⟨rfl, rfl⟩
  case round =>
    obtain ⟨rfl, rfl⟩ := hrel
    go_wp2_with fail
    go_end0
    exact ⟨rfl, rfl⟩

theorem growStmt_no (hb : w.heap[kb]? = some (.cells C 92 (0, 0))) (hc : C[17]? = some (.slice none 0 0)) : Calls Tryz.prog 123 #[.pointer (some ⟨kb, 0, none⟩)] w fun e w' => e = .returned (.tuple #[]) ∧ w' = w := by
  have c := cell_of_block hb hc
  clear hb hc
  go_enter Tryz.func123, Tryz.ntmps123
  go_wp2_with fail
  go_loopw [10] (fun i w' => i = .int .i64 0 ∧ w' = w) (fun _ _ => 0)
  case atStart => exact ⟨rfl, rfl⟩
  case round =>
    obtain ⟨rfl, rfl⟩ := hrel
    go_wp2_with fail
    go_end0
    exact ⟨rfl, rfl⟩

theorem lookStmt_no (hb : w.heap[kb]? = some (.cells C 92 (0, 0))) (hc : C[17]? = some (.slice none 0 0)) : Calls Tryz.prog 150 #[.pointer (some ⟨kb, 0, none⟩)] w fun e w' => e = .returned (.bool true) ∧ w' = w := by
  have c := cell_of_block hb hc
  clear hb hc
  go_enter Tryz.func150, Tryz.ntmps150
  go_wp2_with fail
  go_loopw [12] (fun i w' => i = .int .i64 0 ∧ w' = w) (fun _ _ => 0)
  case atStart => exact ⟨rfl, rfl⟩
  case round =>
    obtain ⟨rfl, rfl⟩ := hrel
    go_wp2_with fail
    go_ret
    exact ⟨rfl, rfl⟩

theorem fillRecord_no (hb : w.heap[kb]? = some (.cells C 92 (0, 0))) (hc : C[18]? = some (.slice none 0 0)) : Calls Tryz.prog 98 #[.pointer (some ⟨kb, 0, none⟩)] w fun e w' => e = .returned (.tuple #[]) ∧ w' = w := by
  have c := cell_of_block hb hc
  clear hb hc
  go_enter Tryz.func98, Tryz.ntmps98
  go_wp2_with fail
  go_loopw [10] (fun i w' => i = .int .i64 0 ∧ w' = w) (fun _ _ => 0)
  case atStart => exact ⟨rfl, rfl⟩
  case round =>
    obtain ⟨rfl, rfl⟩ := hrel
    go_wp2_with fail
    go_end0
    exact ⟨rfl, rfl⟩

theorem growRecord_no (hb : w.heap[kb]? = some (.cells C 92 (0, 0))) (hc : C[18]? = some (.slice none 0 0)) : Calls Tryz.prog 124 #[.pointer (some ⟨kb, 0, none⟩)] w fun e w' => e = .returned (.tuple #[]) ∧ w' = w := by
  have c := cell_of_block hb hc
  clear hb hc
  go_enter Tryz.func124, Tryz.ntmps124
  go_wp2_with fail
  go_loopw [10] (fun i w' => i = .int .i64 0 ∧ w' = w) (fun _ _ => 0)
  case atStart => exact ⟨rfl, rfl⟩
  case round =>
    obtain ⟨rfl, rfl⟩ := hrel
    go_wp2_with fail
    go_end0
    exact ⟨rfl, rfl⟩

theorem lookRecord_no (hb : w.heap[kb]? = some (.cells C 92 (0, 0))) (hc : C[18]? = some (.slice none 0 0)) : Calls Tryz.prog 151 #[.pointer (some ⟨kb, 0, none⟩)] w fun e w' => e = .returned (.bool true) ∧ w' = w := by
  have c := cell_of_block hb hc
  clear hb hc
  go_enter Tryz.func151, Tryz.ntmps151
  go_wp2_with fail
  go_loopw [12] (fun i w' => i = .int .i64 0 ∧ w' = w) (fun _ _ => 0)
  case atStart => exact ⟨rfl, rfl⟩
  case round =>
    obtain ⟨rfl, rfl⟩ := hrel
    go_wp2_with fail
    go_ret
    exact ⟨rfl, rfl⟩

theorem fillFunc_no (hb : w.heap[kb]? = some (.cells C 92 (0, 0))) (hc : C[19]? = some (.slice none 0 0)) : Calls Tryz.prog 99 #[.pointer (some ⟨kb, 0, none⟩)] w fun e w' => e = .returned (.tuple #[]) ∧ w' = w := by
  have c := cell_of_block hb hc
  clear hb hc
  go_enter Tryz.func99, Tryz.ntmps99
  go_wp2_with fail
  go_loopw [10] (fun i w' => i = .int .i64 0 ∧ w' = w) (fun _ _ => 0)
  case atStart => exact ⟨rfl, rfl⟩
  case round =>
    obtain ⟨rfl, rfl⟩ := hrel
    go_wp2_with fail
    go_end0
    exact ⟨rfl, rfl⟩

theorem growFunc_no (hb : w.heap[kb]? = some (.cells C 92 (0, 0))) (hc : C[19]? = some (.slice none 0 0)) : Calls Tryz.prog 125 #[.pointer (some ⟨kb, 0, none⟩)] w fun e w' => e = .returned (.tuple #[]) ∧ w' = w := by
  have c := cell_of_block hb hc
  clear hb hc
  go_enter Tryz.func125, Tryz.ntmps125
  go_wp2_with fail
  go_loopw [10] (fun i w' => i = .int .i64 0 ∧ w' = w) (fun _ _ => 0)
  case atStart => exact ⟨rfl, rfl⟩
  case round =>
    obtain ⟨rfl, rfl⟩ := hrel
    go_wp2_with fail
    go_end0
    exact ⟨rfl, rfl⟩

theorem lookFunc_no (hb : w.heap[kb]? = some (.cells C 92 (0, 0))) (hc : C[19]? = some (.slice none 0 0)) : Calls Tryz.prog 152 #[.pointer (some ⟨kb, 0, none⟩)] w fun e w' => e = .returned (.bool true) ∧ w' = w := by
  have c := cell_of_block hb hc
  clear hb hc
  go_enter Tryz.func152, Tryz.ntmps152
  go_wp2_with fail
  go_loopw [12] (fun i w' => i = .int .i64 0 ∧ w' = w) (fun _ _ => 0)
  case atStart => exact ⟨rfl, rfl⟩
  case round =>
    obtain ⟨rfl, rfl⟩ := hrel
    go_wp2_with fail
    go_ret
    exact ⟨rfl, rfl⟩

theorem fillBlock_no (hb : w.heap[kb]? = some (.cells C 92 (0, 0))) (hc : C[20]? = some (.slice none 0 0)) : Calls Tryz.prog 100 #[.pointer (some ⟨kb, 0, none⟩)] w fun e w' => e = .returned (.tuple #[]) ∧ w' = w := by
  have c := cell_of_block hb hc
  clear hb hc
  go_enter Tryz.func100, Tryz.ntmps100
  go_wp2_with fail
  go_loopw [10] (fun i w' => i = .int .i64 0 ∧ w' = w) (fun _ _ => 0)
  case atStart => exact ⟨rfl, rfl⟩
  case round =>
    obtain ⟨rfl, rfl⟩ := hrel
    go_wp2_with fail
    go_end0
    exact ⟨rfl, rfl⟩

theorem growBlock_no (hb : w.heap[kb]? = some (.cells C 92 (0, 0))) (hc : C[20]? = some (.slice none 0 0)) : Calls Tryz.prog 126 #[.pointer (some ⟨kb, 0, none⟩)] w fun e w' => e = .returned (.tuple #[]) ∧ w' = w := by
  have c := cell_of_block hb hc
  clear hb hc
  go_enter Tryz.func126, Tryz.ntmps126
  go_wp2_with fail
  go_loopw [10] (fun i w' => i = .int .i64 0 ∧ w' = w) (fun _ _ => 0)
  case atStart => exact ⟨rfl, rfl⟩
  case round =>
    obtain ⟨rfl, rfl⟩ := hrel
    go_wp2_with fail
    go_end0
    exact ⟨rfl, rfl⟩

theorem lookBlock_no (hb : w.heap[kb]? = some (.cells C 92 (0, 0))) (hc : C[20]? = some (.slice none 0 0)) : Calls Tryz.prog 153 #[.pointer (some ⟨kb, 0, none⟩)] w fun e w' => e = .returned (.bool true) ∧ w' = w := by
  have c := cell_of_block hb hc
  clear hb hc
  go_enter Tryz.func153, Tryz.ntmps153
  go_wp2_with fail
  go_loopw [12] (fun i w' => i = .int .i64 0 ∧ w' = w) (fun _ _ => 0)
  case atStart => exact ⟨rfl, rfl⟩
  case round =>
    obtain ⟨rfl, rfl⟩ := hrel
    go_wp2_with fail
    go_ret
    exact ⟨rfl, rfl⟩

theorem fillGraph_no (hb : w.heap[kb]? = some (.cells C 92 (0, 0))) (hc : C[21]? = some (.slice none 0 0)) : Calls Tryz.prog 101 #[.pointer (some ⟨kb, 0, none⟩)] w fun e w' => e = .returned (.tuple #[]) ∧ w' = w := by
  have c := cell_of_block hb hc
  clear hb hc
  go_enter Tryz.func101, Tryz.ntmps101
  go_wp2_with fail
  go_loopw [10] (fun i w' => i = .int .i64 0 ∧ w' = w) (fun _ _ => 0)
  case atStart => exact ⟨rfl, rfl⟩
  case round =>
    obtain ⟨rfl, rfl⟩ := hrel
    go_wp2_with fail
    go_end0
    exact ⟨rfl, rfl⟩

theorem growGraph_no (hb : w.heap[kb]? = some (.cells C 92 (0, 0))) (hc : C[21]? = some (.slice none 0 0)) : Calls Tryz.prog 127 #[.pointer (some ⟨kb, 0, none⟩)] w fun e w' => e = .returned (.tuple #[]) ∧ w' = w := by
  have c := cell_of_block hb hc
  clear hb hc
  go_enter Tryz.func127, Tryz.ntmps127
  go_wp2_with fail
  go_loopw [10] (fun i w' => i = .int .i64 0 ∧ w' = w) (fun _ _ => 0)
  case atStart => exact ⟨rfl, rfl⟩
  case round =>
    obtain ⟨rfl, rfl⟩ := hrel
    go_wp2_with fail
    go_end0
    exact ⟨rfl, rfl⟩

theorem lookGraph_no (hb : w.heap[kb]? = some (.cells C 92 (0, 0))) (hc : C[21]? = some (.slice none 0 0)) : Calls Tryz.prog 154 #[.pointer (some ⟨kb, 0, none⟩)] w fun e w' => e = .returned (.bool true) ∧ w' = w := by
  have c := cell_of_block hb hc
  clear hb hc
  go_enter Tryz.func154, Tryz.ntmps154
  go_wp2_with fail
  go_loopw [12] (fun i w' => i = .int .i64 0 ∧ w' = w) (fun _ _ => 0)
  case atStart => exact ⟨rfl, rfl⟩
  case round =>
    obtain ⟨rfl, rfl⟩ := hrel
    go_wp2_with fail
    go_ret
    exact ⟨rfl, rfl⟩

theorem fillAttempt_no (hb : w.heap[kb]? = some (.cells C 92 (0, 0))) (hc : C[22]? = some (.slice none 0 0)) : Calls Tryz.prog 102 #[.pointer (some ⟨kb, 0, none⟩)] w fun e w' => e = .returned (.tuple #[]) ∧ w' = w := by
  have c := cell_of_block hb hc
  clear hb hc
  go_enter Tryz.func102, Tryz.ntmps102
  go_wp2_with fail
  go_loopw [10] (fun i w' => i = .int .i64 0 ∧ w' = w) (fun _ _ => 0)
  case atStart => exact ⟨rfl, rfl⟩
  case round =>
    obtain ⟨rfl, rfl⟩ := hrel
    go_wp2_with fail
    go_end0
    exact ⟨rfl, rfl⟩

theorem growAttempt_no (hb : w.heap[kb]? = some (.cells C 92 (0, 0))) (hc : C[22]? = some (.slice none 0 0)) : Calls Tryz.prog 128 #[.pointer (some ⟨kb, 0, none⟩)] w fun e w' => e = .returned (.tuple #[]) ∧ w' = w := by
  have c := cell_of_block hb hc
  clear hb hc
  go_enter Tryz.func128, Tryz.ntmps128
  go_wp2_with fail
  go_loopw [10] (fun i w' => i = .int .i64 0 ∧ w' = w) (fun _ _ => 0)
  case atStart => exact ⟨rfl, rfl⟩
  case round =>
    obtain ⟨rfl, rfl⟩ := hrel
    go_wp2_with fail
    go_end0
    exact ⟨rfl, rfl⟩

theorem lookAttempt_no (hb : w.heap[kb]? = some (.cells C 92 (0, 0))) (hc : C[22]? = some (.slice none 0 0)) : Calls Tryz.prog 155 #[.pointer (some ⟨kb, 0, none⟩)] w fun e w' => e = .returned (.bool true) ∧ w' = w := by
  have c := cell_of_block hb hc
  clear hb hc
  go_enter Tryz.func155, Tryz.ntmps155
  go_wp2_with fail
  go_loopw [12] (fun i w' => i = .int .i64 0 ∧ w' = w) (fun _ _ => 0)
  case atStart => exact ⟨rfl, rfl⟩
  case round =>
    obtain ⟨rfl, rfl⟩ := hrel
    go_wp2_with fail
    go_ret
    exact ⟨rfl, rfl⟩

theorem fillNumberRow_no (hb : w.heap[kb]? = some (.cells C 92 (0, 0))) (hc : C[23]? = some (.slice none 0 0)) : Calls Tryz.prog 103 #[.pointer (some ⟨kb, 0, none⟩)] w fun e w' => e = .returned (.tuple #[]) ∧ w' = w := by
  have c := cell_of_block hb hc
  clear hb hc
  go_enter Tryz.func103, Tryz.ntmps103
  go_wp2_with fail
  go_loopw [10] (fun i w' => i = .int .i64 0 ∧ w' = w) (fun _ _ => 0)
  case atStart => exact ⟨rfl, rfl⟩
  case round =>
    obtain ⟨rfl, rfl⟩ := hrel
    go_wp2_with fail
    go_end0
    exact ⟨rfl, rfl⟩

theorem growNumberRow_no (hb : w.heap[kb]? = some (.cells C 92 (0, 0))) (hc : C[23]? = some (.slice none 0 0)) : Calls Tryz.prog 129 #[.pointer (some ⟨kb, 0, none⟩)] w fun e w' => e = .returned (.tuple #[]) ∧ w' = w := by
  have c := cell_of_block hb hc
  clear hb hc
  go_enter Tryz.func129, Tryz.ntmps129
  go_wp2_with fail
  go_loopw [10] (fun i w' => i = .int .i64 0 ∧ w' = w) (fun _ _ => 0)
  case atStart => exact ⟨rfl, rfl⟩
  case round =>
    obtain ⟨rfl, rfl⟩ := hrel
    go_wp2_with fail
    go_end0
    exact ⟨rfl, rfl⟩

theorem lookNumberRow_no (hb : w.heap[kb]? = some (.cells C 92 (0, 0))) (hc : C[23]? = some (.slice none 0 0)) : Calls Tryz.prog 156 #[.pointer (some ⟨kb, 0, none⟩)] w fun e w' => e = .returned (.bool true) ∧ w' = w := by
  have c := cell_of_block hb hc
  clear hb hc
  go_enter Tryz.func156, Tryz.ntmps156
  go_wp2_with fail
  go_loopw [12] (fun i w' => i = .int .i64 0 ∧ w' = w) (fun _ _ => 0)
  case atStart => exact ⟨rfl, rfl⟩
  case round =>
    obtain ⟨rfl, rfl⟩ := hrel
    go_wp2_with fail
    go_ret
    exact ⟨rfl, rfl⟩

theorem fillOpRow_no (hb : w.heap[kb]? = some (.cells C 92 (0, 0))) (hc : C[24]? = some (.slice none 0 0)) : Calls Tryz.prog 104 #[.pointer (some ⟨kb, 0, none⟩)] w fun e w' => e = .returned (.tuple #[]) ∧ w' = w := by
  have c := cell_of_block hb hc
  clear hb hc
  go_enter Tryz.func104, Tryz.ntmps104
  go_wp2_with fail
  go_loopw [10] (fun i w' => i = .int .i64 0 ∧ w' = w) (fun _ _ => 0)
  case atStart => exact ⟨rfl, rfl⟩
  case round =>
    obtain ⟨rfl, rfl⟩ := hrel
    go_wp2_with fail
    go_end0
    exact ⟨rfl, rfl⟩

theorem growOpRow_no (hb : w.heap[kb]? = some (.cells C 92 (0, 0))) (hc : C[24]? = some (.slice none 0 0)) : Calls Tryz.prog 130 #[.pointer (some ⟨kb, 0, none⟩)] w fun e w' => e = .returned (.tuple #[]) ∧ w' = w := by
  have c := cell_of_block hb hc
  clear hb hc
  go_enter Tryz.func130, Tryz.ntmps130
  go_wp2_with fail
  go_loopw [10] (fun i w' => i = .int .i64 0 ∧ w' = w) (fun _ _ => 0)
  case atStart => exact ⟨rfl, rfl⟩
  case round =>
    obtain ⟨rfl, rfl⟩ := hrel
    go_wp2_with fail
    go_end0
    exact ⟨rfl, rfl⟩

theorem lookOpRow_no (hb : w.heap[kb]? = some (.cells C 92 (0, 0))) (hc : C[24]? = some (.slice none 0 0)) : Calls Tryz.prog 157 #[.pointer (some ⟨kb, 0, none⟩)] w fun e w' => e = .returned (.bool true) ∧ w' = w := by
  have c := cell_of_block hb hc
  clear hb hc
  go_enter Tryz.func157, Tryz.ntmps157
  go_wp2_with fail
  go_loopw [12] (fun i w' => i = .int .i64 0 ∧ w' = w) (fun _ _ => 0)
  case atStart => exact ⟨rfl, rfl⟩
  case round =>
    obtain ⟨rfl, rfl⟩ := hrel
    go_wp2_with fail
    go_ret
    exact ⟨rfl, rfl⟩

theorem fillStmtRow_no (hb : w.heap[kb]? = some (.cells C 92 (0, 0))) (hc : C[25]? = some (.slice none 0 0)) : Calls Tryz.prog 105 #[.pointer (some ⟨kb, 0, none⟩)] w fun e w' => e = .returned (.tuple #[]) ∧ w' = w := by
  have c := cell_of_block hb hc
  clear hb hc
  go_enter Tryz.func105, Tryz.ntmps105
  go_wp2_with fail
  go_loopw [10] (fun i w' => i = .int .i64 0 ∧ w' = w) (fun _ _ => 0)
  case atStart => exact ⟨rfl, rfl⟩
  case round =>
    obtain ⟨rfl, rfl⟩ := hrel
    go_wp2_with fail
    go_end0
    exact ⟨rfl, rfl⟩

theorem growStmtRow_no (hb : w.heap[kb]? = some (.cells C 92 (0, 0))) (hc : C[25]? = some (.slice none 0 0)) : Calls Tryz.prog 131 #[.pointer (some ⟨kb, 0, none⟩)] w fun e w' => e = .returned (.tuple #[]) ∧ w' = w := by
  have c := cell_of_block hb hc
  clear hb hc
  go_enter Tryz.func131, Tryz.ntmps131
  go_wp2_with fail
  go_loopw [10] (fun i w' => i = .int .i64 0 ∧ w' = w) (fun _ _ => 0)
  case atStart => exact ⟨rfl, rfl⟩
  case round =>
    obtain ⟨rfl, rfl⟩ := hrel
    go_wp2_with fail
    go_end0
    exact ⟨rfl, rfl⟩

theorem lookStmtRow_no (hb : w.heap[kb]? = some (.cells C 92 (0, 0))) (hc : C[25]? = some (.slice none 0 0)) : Calls Tryz.prog 158 #[.pointer (some ⟨kb, 0, none⟩)] w fun e w' => e = .returned (.bool true) ∧ w' = w := by
  have c := cell_of_block hb hc
  clear hb hc
  go_enter Tryz.func158, Tryz.ntmps158
  go_wp2_with fail
  go_loopw [12] (fun i w' => i = .int .i64 0 ∧ w' = w) (fun _ _ => 0)
  case atStart => exact ⟨rfl, rfl⟩
  case round =>
    obtain ⟨rfl, rfl⟩ := hrel
    go_wp2_with fail
    go_ret
    exact ⟨rfl, rfl⟩

theorem fillTxRow_no (hb : w.heap[kb]? = some (.cells C 92 (0, 0))) (hc : C[26]? = some (.slice none 0 0)) : Calls Tryz.prog 106 #[.pointer (some ⟨kb, 0, none⟩)] w fun e w' => e = .returned (.tuple #[]) ∧ w' = w := by
  have c := cell_of_block hb hc
  clear hb hc
  go_enter Tryz.func106, Tryz.ntmps106
  go_wp2_with fail
  go_loopw [10] (fun i w' => i = .int .i64 0 ∧ w' = w) (fun _ _ => 0)
  case atStart => exact ⟨rfl, rfl⟩
  case round =>
    obtain ⟨rfl, rfl⟩ := hrel
    go_wp2_with fail
    go_end0
    exact ⟨rfl, rfl⟩

theorem growTxRow_no (hb : w.heap[kb]? = some (.cells C 92 (0, 0))) (hc : C[26]? = some (.slice none 0 0)) : Calls Tryz.prog 132 #[.pointer (some ⟨kb, 0, none⟩)] w fun e w' => e = .returned (.tuple #[]) ∧ w' = w := by
  have c := cell_of_block hb hc
  clear hb hc
  go_enter Tryz.func132, Tryz.ntmps132
  go_wp2_with fail
  go_loopw [10] (fun i w' => i = .int .i64 0 ∧ w' = w) (fun _ _ => 0)
  case atStart => exact ⟨rfl, rfl⟩
  case round =>
    obtain ⟨rfl, rfl⟩ := hrel
    go_wp2_with fail
    go_end0
    exact ⟨rfl, rfl⟩

theorem lookTxRow_no (hb : w.heap[kb]? = some (.cells C 92 (0, 0))) (hc : C[26]? = some (.slice none 0 0)) : Calls Tryz.prog 159 #[.pointer (some ⟨kb, 0, none⟩)] w fun e w' => e = .returned (.bool true) ∧ w' = w := by
  have c := cell_of_block hb hc
  clear hb hc
  go_enter Tryz.func159, Tryz.ntmps159
  go_wp2_with fail
  go_loopw [12] (fun i w' => i = .int .i64 0 ∧ w' = w) (fun _ _ => 0)
  case atStart => exact ⟨rfl, rfl⟩
  case round =>
    obtain ⟨rfl, rfl⟩ := hrel
    go_wp2_with fail
    go_ret
    exact ⟨rfl, rfl⟩

theorem fillSeenRow_no (hb : w.heap[kb]? = some (.cells C 92 (0, 0))) (hc : C[27]? = some (.slice none 0 0)) : Calls Tryz.prog 107 #[.pointer (some ⟨kb, 0, none⟩)] w fun e w' => e = .returned (.tuple #[]) ∧ w' = w := by
  have c := cell_of_block hb hc
  clear hb hc
  go_enter Tryz.func107, Tryz.ntmps107
  go_wp2_with fail
  go_loopw [10] (fun i w' => i = .int .i64 0 ∧ w' = w) (fun _ _ => 0)
  case atStart => exact ⟨rfl, rfl⟩
  case round =>
    obtain ⟨rfl, rfl⟩ := hrel
    go_wp2_with fail
    go_end0
    exact ⟨rfl, rfl⟩

theorem growSeenRow_no (hb : w.heap[kb]? = some (.cells C 92 (0, 0))) (hc : C[27]? = some (.slice none 0 0)) : Calls Tryz.prog 133 #[.pointer (some ⟨kb, 0, none⟩)] w fun e w' => e = .returned (.tuple #[]) ∧ w' = w := by
  have c := cell_of_block hb hc
  clear hb hc
  go_enter Tryz.func133, Tryz.ntmps133
  go_wp2_with fail
  go_loopw [10] (fun i w' => i = .int .i64 0 ∧ w' = w) (fun _ _ => 0)
  case atStart => exact ⟨rfl, rfl⟩
  case round =>
    obtain ⟨rfl, rfl⟩ := hrel
    go_wp2_with fail
    go_end0
    exact ⟨rfl, rfl⟩

theorem lookSeenRow_no (hb : w.heap[kb]? = some (.cells C 92 (0, 0))) (hc : C[27]? = some (.slice none 0 0)) : Calls Tryz.prog 160 #[.pointer (some ⟨kb, 0, none⟩)] w fun e w' => e = .returned (.bool true) ∧ w' = w := by
  have c := cell_of_block hb hc
  clear hb hc
  go_enter Tryz.func160, Tryz.ntmps160
  go_wp2_with fail
  go_loopw [12] (fun i w' => i = .int .i64 0 ∧ w' = w) (fun _ _ => 0)
  case atStart => exact ⟨rfl, rfl⟩
  case round =>
    obtain ⟨rfl, rfl⟩ := hrel
    go_wp2_with fail
    go_ret
    exact ⟨rfl, rfl⟩

theorem bits_no (k : Nat) (hb : w.heap[kb]? = some (.cells C 92 (0, 0))) (hc : C[1]? = some (.slice none 0 0)) : Calls Tryz.prog 134 #[.pointer (some ⟨kb, 0, none⟩), .int .u64 (k : Int)] w fun e w' => e = .returned (.bool true) ∧ w' = w := by
  have c := cell_of_block hb hc
  clear hb hc
  go_enter Tryz.func134, Tryz.ntmps134
  go_wp2_with fail
  go_loopw [19] (fun i w' => i = .int .i64 0 ∧ w' = w) (fun _ _ => 0)
  case atStart => exact ⟨rfl, rfl⟩
  case round =>
    obtain ⟨rfl, hw⟩ := hrel
    rw [hw]
    go_wp2_with fail
    go_loopw [44] (fun i w' => i = .int .i64 0 ∧ w' = w) (fun _ _ => 0)
    case atStart => exact ⟨rfl, rfl⟩
    case round =>
      obtain ⟨rfl, hw2⟩ := hrel
      rw [hw2]
      go_wp2_with fail
      go_loopw [77] (fun i w' => i = .int .i64 0 ∧ w' = w) (fun _ _ => 0)
      case atStart => exact ⟨rfl, rfl⟩
      case round =>
        obtain ⟨rfl, hw3⟩ := hrel
        rw [hw3]
        go_wp2_with fail
        go_ret
        exact ⟨rfl, rfl⟩

end Go.Proofs.YthmmbldhbdnfpaaGreatDoor

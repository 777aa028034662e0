/- turnstilelaw01.markTxOp, isTxOp. (Out of mkbookk.py's text: the marks alone.) -/
import Derived.Test.YtilkpmjkiohfdaaGreatDoorBookE
import Derived.Test.YtilkpmjkiohfdaaGreatDoorBookR
import Derived.Test.YtilkpmjkiohfdaaGreatDoorStep
import Derived.Deep.MidRow
import Derived.Deep.CutRange
import Derived.Deep.RegionHeld3
namespace Go.Proofs.YtilkpmjkiohfdaaGreatDoor
open Go.RowKit
set_option linter.unusedVariables false
set_option linter.unusedSimpArgs false

def markTxOp (n : Int) : List Value := [.int .i64 (-1000 - n), .int .u8 0, .int .i64 0, .int .i64 0]
set_option maxHeartbeats 400000 in
theorem markTxOp_any (w : World) (n : Int) (h : 0 ≤ n ∧ n ≤ 1000000) : Calls Tryz.prog 147 #[.int .i64 n] w fun e w' => ∃ c : Array Value, e = .returned (.agg c) ∧ c.toList = markTxOp n ∧ c.size = 4 ∧ Below w.heap.size w w' := by
  have e1 : IntKind.i64.wrap (-1000 - n) = -1000 - n := IntWalk.i64_in _ (by omega)
  clear h
  go_enter Tryz.func147, Tryz.ntmps147
  go_wp2
  exact bodyPost_ret (v := .agg (markTxOp n).toArray) (by simp [results, Tryz.results147, go_sem, markTxOp]) rfl ⟨_, rfl, rfl, rfl, (Below.refl _ _).alloc (Nat.le_refl _) _⟩

theorem markTxOp_lit (w : World) (n : Int) (h : 0 ≤ n ∧ n ≤ 1000000) : Calls Tryz.prog 147 #[.int .i64 n] w fun e w' => e = .returned (.agg #[.int .i64 (-1000 - n), .int .u8 0, .int .i64 0, .int .i64 0]) ∧ Below w.heap.size w w' := by
  refine (markTxOp_any w n h).mono ?_
  rintro e w' ⟨c, rfl, hc, _, hb⟩
  refine ⟨?_, hb⟩
  have : c = (markTxOp n).toArray := by rw [← hc]
  rw [this]
  rfl

set_option maxHeartbeats 1000000 in
theorem isTxOp_any (w : World) (n : Int) (h : 0 ≤ n ∧ n ≤ 1000000) : Calls Tryz.prog 151 #[.agg #[.int .i64 (-1000 - n), .int .u8 0, .int .i64 0, .int .i64 0], .int .i64 n] w fun e w' => e = .returned (.bool true) ∧ Below w.heap.size w w' := by
  have H := hidI h
  have hbx := fun t' => ext_block (block_new w (.cells #[.int .i64 (-1000 - n), .int .u8 0, .int .i64 0, .int .i64 0] 150)) t'
  have x0 := fun t' => cell_of_block (o := 0) (hbx t') rfl
  have x1 := fun t' => cell_of_block (o := 1) (hbx t') rfl
  have x2 := fun t' => cell_of_block (o := 2) (hbx t') rfl
  have x3 := fun t' => cell_of_block (o := 3) (hbx t') rfl
  have HB := hidI ((Below.refl w.heap.size w).alloc (Nat.le_refl _) (.cells #[.int .i64 (-1000 - n), .int .u8 0, .int .i64 0, .int .i64 0] 150))
  clear h hbx
  go_enter Tryz.func151, Tryz.ntmps151
  go_wp2_with fail
  refine wp_region_grow (by kernel_rfl) (by kernel_rfl) ?_
  repeat (go_big_quiet_step ((first | (go_at_call 147; exact grow_of (markTxOp_lit _ _ H.out)))))
  refine wpQuiet_nil ?_
  intro w1 hb
  have HB1 := hidI (HB.out.trans (hb.mono HB.out.size))
  clear hb
  go_wp2_with fail
  go_ret
  exact ⟨rfl, HB1.out⟩

end Go.Proofs.YtilkpmjkiohfdaaGreatDoor

/- An instruction that came in, as its six cells, and by value. -/
import Derived.Test.YtbfghkhfiflibaaIsaE
import Derived.Test.YtbfghkhfiflibaaIsaC
import Derived.Test.YtbfghkhfiflibaaWrap
import Derived.ProofKit
import Derived.Lib.SmallJoins
namespace Go.Proofs.Ytbfghkhfiflibaa
open Go.RowKit

theorem wf8 {n : Int} (h : (Lit.int .u8 n).wf = true) : 0 ≤ n ∧ n < 256 := by
  simp [Lit.wf] at h
  have e1 : IntKind.u8.min = 0 := by decide
  have e2 : IntKind.u8.max = 255 := by decide
  omega

theorem op_elem {H : Type} {enc : TypeId × Value → H} {w : World} {held : Bool} (fuel : Nat) (cs : List Value) (x : DataW H × List MemPlace) (h : DataW.trod enc Try.prog w 0 (fun _ => true) held fuel 25 cs = some x) : ∃ a, cs = encOp a ∧ wfOp a := by
  obtain ⟨xs, n, _, rfl, hl, hlen, hf⟩ := DataW.trod_struct Try.underlying25 h
  rw [show Try.prog.cellsOf 25 = 6 from by kernel_rfl] at hl
  match xs, hlen with
  | [y0, y1, y2, y3, y4, y5], _ =>
  have e1 : Try.prog.cellsOf 22 = 1 := by kernel_rfl
  have e2 : Try.prog.cellsOf 23 = 1 := by kernel_rfl
  have e3 : Try.prog.cellsOf 5 = 1 := by kernel_rfl
  have e4 : Try.prog.cellsOf 2 = 1 := by kernel_rfl
  obtain ⟨v0, h0, -, w0⟩ := DataW.trod_int Try.underlying22 (hf 0 _ rfl)
  obtain ⟨v1, h1, -, w1⟩ := DataW.trod_int Try.underlying23 (hf 1 _ rfl)
  obtain ⟨v2, h2, -, w2⟩ := DataW.trod_int Try.underlying5 (hf 2 _ rfl)
  obtain ⟨v3, h3, -, w3⟩ := DataW.trod_int Try.underlying5 (hf 3 _ rfl)
  obtain ⟨v4, h4, -, w4⟩ := DataW.trod_int Try.underlying5 (hf 4 _ rfl)
  obtain ⟨v5, h5, -, w5⟩ := DataW.trod_int Try.underlying2 (hf 5 _ rfl)
  match cs, hl with
  | [c0, c1, c2, c3, c4, c5], _ =>
    simp [e1] at h0
    simp [e2] at h1
    simp [e3] at h2 h3 h4
    simp [e4] at h5
    exact ⟨⟨v0, v1, v2, v3, v4, v5⟩, by simp [encOp, h0, h1, h2, h3, h4, h5], wf8 w0, wf8 w1, wf8 w2, wf8 w3, wf8 w4, wf_i64 w5⟩

theorem op_open {H : Type} {enc : TypeId × Value → H} {w : World} {held : Bool} {r : Reach} {b0 : Nat} {v : Value} {d : DataW H} {p : List MemPlace} (hv : Value.okWide Try.prog w r b0 25 v)
    (h : DataW.Trod enc Try.prog w 0 (fun _ => true) held 25 v d p) : ∃ a, v = .agg (encOp a).toArray ∧ wfOp a := by
  obtain ⟨cs, rfl, hsz⟩ := Go.WideShapes.okWide_struct Try.underlying25 hv
  obtain ⟨fuel, hf⟩ := h
  obtain ⟨a, ha, hw⟩ := op_elem fuel _ _ hf
  refine ⟨a, ?_, hw⟩
  rw [← ha]
  simp [Value.cells]

theorem check_num (z : Int) (o : OpD) (hw : wfOp o) (hz : z = if checkS o = true then 0 else 1) (w : World) : Calls Try.prog 6 #[.agg (encOp o).toArray] w fun e w' => e = .returned (.int .i64 z) ∧ Below w.heap.size w w' := by
  rw [hz]
  exact check_any w o hw
theorem rcheck_num (z : Int) (o : OpD) (hw : wfOp o) (hz : z = if checkS o = true then 0 else 1) (w : World) : Calls Try.prog 7 #[.agg (encOp o).toArray] w fun e w' => e = .returned (.int .i64 z) ∧ Below w.heap.size w w' := by
  rw [hz]
  exact rcheck_any w o hw

set_option maxHeartbeats 1000000 in
theorem checks_any (w : World) (o : OpD) (hw : wfOp o) : Calls Try.prog 3 #[.agg (encOp o).toArray] w fun e w' => e = .returned (.bool true) ∧ Below w.heap.size w w' := by
  unfold encOp
  go_enter Try.func3, Try.ntmps3
  have HW := hidI hw
  obtain ⟨z, hz⟩ : ∃ z : Int, z = if checkS o = true then 0 else 1 := ⟨_, rfl⟩
  have HZ := hidI hz
  clear hz
  go_wp2_with fail
  have x0 : ∀ t, (ext (w.alloc (.cells #[.int .u8 o.kind, .int .u8 o.cal, .int .u8 o.a, .int .u8 o.b, .int .u8 o.c, .int .i64 o.n] 25)) t).cell? ⟨w.heap.size, 0, none⟩ = some (.int .u8 o.kind) := fun t => cell_of_block (ext_block (block_new _ _) t) rfl
  have x1 : ∀ t, (ext (w.alloc (.cells #[.int .u8 o.kind, .int .u8 o.cal, .int .u8 o.a, .int .u8 o.b, .int .u8 o.c, .int .i64 o.n] 25)) t).cell? ⟨w.heap.size, 1, none⟩ = some (.int .u8 o.cal) := fun t => cell_of_block (ext_block (block_new _ _) t) rfl
  have x2 : ∀ t, (ext (w.alloc (.cells #[.int .u8 o.kind, .int .u8 o.cal, .int .u8 o.a, .int .u8 o.b, .int .u8 o.c, .int .i64 o.n] 25)) t).cell? ⟨w.heap.size, 2, none⟩ = some (.int .u8 o.a) := fun t => cell_of_block (ext_block (block_new _ _) t) rfl
  have x3 : ∀ t, (ext (w.alloc (.cells #[.int .u8 o.kind, .int .u8 o.cal, .int .u8 o.a, .int .u8 o.b, .int .u8 o.c, .int .i64 o.n] 25)) t).cell? ⟨w.heap.size, 3, none⟩ = some (.int .u8 o.b) := fun t => cell_of_block (ext_block (block_new _ _) t) rfl
  have x4 : ∀ t, (ext (w.alloc (.cells #[.int .u8 o.kind, .int .u8 o.cal, .int .u8 o.a, .int .u8 o.b, .int .u8 o.c, .int .i64 o.n] 25)) t).cell? ⟨w.heap.size, 4, none⟩ = some (.int .u8 o.c) := fun t => cell_of_block (ext_block (block_new _ _) t) rfl
  have x5 : ∀ t, (ext (w.alloc (.cells #[.int .u8 o.kind, .int .u8 o.cal, .int .u8 o.a, .int .u8 o.b, .int .u8 o.c, .int .i64 o.n] 25)) t).cell? ⟨w.heap.size, 5, none⟩ = some (.int .i64 o.n) := fun t => cell_of_block (ext_block (block_new _ _) t) rfl
  refine wp_region_grow (by kernel_rfl) (by kernel_rfl) ?_
  repeat (go_big_quiet_step ((first
    | (go_at_call 6; exact grow_of (check_num z o HW.out HZ.out _))
    | (go_at_call 7; exact grow_of (rcheck_num z o HW.out HZ.out _))
    | (go_at_call 8; exact grow_of (alive_any _)))))
  refine wpQuiet_nil ?_
  intro w' hb0
  have hb := hidI hb0
  clear hb0
  go_wp2_with fail
  go_ret
  exact ⟨rfl, bnextA (Below.refl _ _) hb.out⟩
end Go.Proofs.Ytbfghkhfiflibaa

/- Package tso's laws: elements that came in: numbers, instructions, cells. -/
import Derived.Test.YthmmbldhbdnfpaaGreatDoorMTsoA
import Derived.Test.YthmmbldhbdnfpaaGreatDoorMBase
import Derived.ProofKit
import Derived.Lib.SmallJoins
namespace Go.Proofs.YthmmbldhbdnfpaaGreatDoor
open Go.RowKit
set_option linter.unusedVariables false
set_option linter.unusedSimpArgs false

theorem wf8T {n : Int} (h : (Lit.int .u8 n).wf = true) : 0 ≤ n ∧ n < 256 := by
  simp [Lit.wf] at h
  have e1 : IntKind.u8.min = 0 := by decide
  have e2 : IntKind.u8.max = 255 := by decide
  omega
def in64 (z : Int) : Prop := -9223372036854775808 ≤ z ∧ z ≤ 9223372036854775807
theorem wide_elem {H : Type} {enc : TypeId × Value → H} {w : World} {held : Bool} (fuel : Nat) (cs : List Value) (x : DataW H × List MemPlace) (h : DataW.trod enc Tryz.prog w 0 (fun _ => true) held fuel 2 cs = some x) : ∃ a, cs = encI a ∧ in64 a := by
  obtain ⟨a, ha, -, wa⟩ := DataW.trod_int Tryz.underlying2 h
  exact ⟨a, ha, wf_i64 wa⟩
set_option maxRecDepth 100000 in
theorem cellT_elem {H : Type} {enc : TypeId × Value → H} {w : World} {held : Bool} (fuel : Nat) (cs : List Value) (x : DataW H × List MemPlace) (h : DataW.trod enc Tryz.prog w 0 (fun _ => true) held fuel 105 cs = some x) : ∃ a, cs = encCell a ∧ (in64 a.1 ∧ in64 a.2) := by
  obtain ⟨y0, y1, n, hx, hl, h0, h1⟩ := Go.ChangeShapes.trod_struct2 Tryz.underlying105 h
  obtain ⟨a, ha, -, wa⟩ := DataW.trod_int Tryz.underlying3 h0
  obtain ⟨b, hb, -, wb⟩ := DataW.trod_int Tryz.underlying2 h1
  rw [show Tryz.prog.cellsOf 105 = 2 from by kernel_rfl] at hl
  rw [show Tryz.prog.cellsOf 3 = 1 from by kernel_rfl] at ha
  rw [show Tryz.prog.cellsOf 2 = 1 from by kernel_rfl] at hb
  match cs, hl with
  | [c0, c1], _ =>
    simp at ha hb
    exact ⟨(a, b), by simp [encCell, ha, hb], wf_i64 wa, wf_i64 wb⟩
set_option maxRecDepth 100000 in
theorem opT_elem {H : Type} {enc : TypeId × Value → H} {w : World} {held : Bool} (fuel : Nat) (cs : List Value) (x : DataW H × List MemPlace) (h : DataW.trod enc Tryz.prog w 0 (fun _ => true) held fuel 44 cs = some x) : ∃ a, cs = encOp a ∧ wfOp a := by
  obtain ⟨xs, n, _, rfl, hl, hlen, hf⟩ := DataW.trod_struct Tryz.underlying44 h
  rw [show Tryz.prog.cellsOf 44 = 6 from by kernel_rfl] at hl
  match xs, hlen with
  | [y0, y1, y2, y3, y4, y5], _ =>
  have e1 : Tryz.prog.cellsOf 41 = 1 := by kernel_rfl
  have e2 : Tryz.prog.cellsOf 42 = 1 := by kernel_rfl
  have e3 : Tryz.prog.cellsOf 5 = 1 := by kernel_rfl
  have e4 : Tryz.prog.cellsOf 2 = 1 := by kernel_rfl
  obtain ⟨v0, h0, -, w0⟩ := DataW.trod_int Tryz.underlying41 (hf 0 _ rfl)
  obtain ⟨v1, h1, -, w1⟩ := DataW.trod_int Tryz.underlying42 (hf 1 _ rfl)
  obtain ⟨v2, h2, -, w2⟩ := DataW.trod_int Tryz.underlying5 (hf 2 _ rfl)
  obtain ⟨v3, h3, -, w3⟩ := DataW.trod_int Tryz.underlying5 (hf 3 _ rfl)
  obtain ⟨v4, h4, -, w4⟩ := DataW.trod_int Tryz.underlying5 (hf 4 _ rfl)
  obtain ⟨v5, h5, -, w5⟩ := DataW.trod_int Tryz.underlying2 (hf 5 _ rfl)
  match cs, hl with
  | [c0, c1, c2, c3, c4, c5], _ =>
    simp [e1] at h0
    simp [e2] at h1
    simp [e3] at h2 h3 h4
    simp [e4] at h5
    exact ⟨⟨v0, v1, v2, v3, v4, v5⟩, by simp [encOp, h0, h1, h2, h3, h4, h5], wf8T w0, wf8T w1, wf8T w2, wf8T w3, wf8T w4, wf_i64 w5⟩
/-- numbers as Ints has them -/
theorem ints_of {w : World} {ao : Option Addr} {cap : Nat} {l : List Int} (h : RdT encI w 1 (.slice ao l.length cap) l) : Ints w (.slice ao l.length cap) l := by
  have h0 := h
  obtain ⟨h1, ao', cap', e, h2, h3⟩ := h
  simp only [Value.slice.injEq, true_and] at e
  obtain ⟨rfl, rfl⟩ := e
  refine ⟨ao, cap, rfl, h2, fun i hi => ?_⟩
  obtain ⟨b, off, rfl, hb, hc⟩ := RdT.at encI_len h0 (List.getElem?_eq_getElem hi)
  refine ⟨b, off, rfl, hb, ?_⟩
  have := hc 0 _ rfl
  rw [Nat.mul_one, Nat.add_zero] at this
  rw [this]
  simp [nth, List.getD, hi]
end Go.Proofs.YthmmbldhbdnfpaaGreatDoor

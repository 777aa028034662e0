/- Part of the proof: ImV -/
import Derived.Test.YtgodmogkhgilmaaGreatDoorP44
import Derived.Test.YtgodmogkhgilmaaGreatDoorP45
import Derived.Lib.SmallJoins
namespace Go.Proofs.YtgodmogkhgilmaaGreatDoor
open Go.ChangeShapes Go.WideShapes Go.ChangeAt Go.RowKit
set_option linter.unusedVariables false
set_option linter.unusedSimpArgs false
theorem bn_four {α : Type} (l : List α) (h : l.length = 4) : ∃ a b c d, l = [a, b, c, d] := by
  match l, h with
  | [a, b, c, d], _ => exact ⟨a, b, c, d, rfl⟩
theorem txD_elem {H : Type} {enc : TypeId × Value → H} {w : World} {held : Bool} (fuel : Nat) (cs : List Value) (x : DataW H × List MemPlace) (h : DataW.trod enc Tryz.prog w 0 (fun _ => true) held fuel 88 cs = some x) : ∃ a : Tx, cs = encTxD a ∧ TxWf a := by
  obtain ⟨y0, y1, y2, y3, n, hx, hl, h0, h1, h2, h3⟩ := Go.Joins.trod_struct4 Tryz.underlying88 h
  obtain ⟨a, ha, -, -⟩ := DataW.trod_int Tryz.underlying3 h0
  obtain ⟨k, hk, -, hkw⟩ := DataW.trod_int Tryz.underlying86 h1
  obtain ⟨b, hb, -, hbw⟩ := DataW.trod_int Tryz.underlying3 h2
  obtain ⟨c, hc, -, hcw⟩ := DataW.trod_int Tryz.underlying2 h3
  rw [show Tryz.prog.cellsOf 88 = 4 from by kernel_rfl] at hl
  rw [show Tryz.prog.cellsOf 3 = 1 from by kernel_rfl] at ha hb
  rw [show Tryz.prog.cellsOf 86 = 1 from by kernel_rfl] at hk
  rw [show Tryz.prog.cellsOf 2 = 1 from by kernel_rfl] at hc
  obtain ⟨c0, c1, c2, c3, rfl⟩ := bn_four cs hl
  simp at ha hk hb hc
  exact ⟨⟨a, k, b, c⟩, by simp [encTxD, ha, hk, hb, hc], wf_i64 hbw, wf_i64 hcw⟩
theorem txRow_elem {H : Type} {enc : TypeId × Value → H} {w : World} {held : Bool} (fuel : Nat) (cs : List Value) (x : DataW H × List MemPlace) (h : DataW.trod enc Tryz.prog w 0 (fun _ => true) held fuel 71 cs = some x) :
    ∃ a : Value × List Tx, cs = encR a ∧ (RdT encTxD w 4 a.1 a.2 ∧ (∀ o ∈ a.2, TxWf o) ∧ a.2.length ≤ 9223372036854775807) := by
  rcases Go.Deep.open_slice Tryz.underlying71 h with ⟨rfl, _⟩ | ⟨a, len, cap, m, n, D, Pl, rfl, _⟩
  · exact ⟨(.slice none 0 0, []), rfl, Rd.nil w 4, by simp, by simp⟩
  · obtain ⟨l, rfl, hr, hm, hok, -⟩ := slice_open (d := x.1) (p := x.2) (sz := 4) (e := 88) encTxD_len (by decide) Tryz.underlying71 (by kernel_rfl) txD_elem ⟨fuel, by simpa [Value.cells] using h⟩
    exact ⟨(.slice (some a) l.length cap, l), rfl, hr, hok, hm⟩
theorem txRows_elem {H : Type} {enc : TypeId × Value → H} {w : World} {held : Bool} (fuel : Nat) (cs : List Value) (x : DataW H × List MemPlace) (h : DataW.trod enc Tryz.prog w 0 (fun _ => true) held fuel 25 cs = some x) :
    ∃ a : Value × List (Value × List Tx), cs = encR2 a ∧ (RowsAt w a.1 a.2 ∧ a.2.length ≤ 9223372036854775807 ∧ (∀ q ∈ a.2, q.2.length ≤ 9223372036854775807) ∧ ∀ q ∈ a.2, ∀ o ∈ q.2, TxWf o) := by
  rcases Go.Deep.open_slice Tryz.underlying25 h with ⟨rfl, _⟩ | ⟨a, len, cap, m, n, D, Pl, rfl, _⟩
  · exact ⟨(.slice none 0 0, []), rfl, ⟨Rd.nil w 1, by simp⟩, by simp, by simp, by simp⟩
  · obtain ⟨l, rfl, hr, hm, hok, -⟩ := slice_open (d := x.1) (p := x.2) (sz := 1) (e := 71) (fun _ => rfl) (by decide) Tryz.underlying25 (by kernel_rfl) txRow_elem ⟨fuel, by simpa [Value.cells] using h⟩
    exact ⟨(.slice (some a) l.length cap, l), rfl, ⟨hr, fun q hq => (hok q hq).1⟩, hm, fun q hq => (hok q hq).2.2, fun q hq => (hok q hq).2.1⟩
theorem ths_open {H : Type} {enc : TypeId × Value → H} {w : World} {held : Bool} {ao : Option Addr} {len cap : Nat} {d : DataW H} {p : List MemPlace} (h : DataW.Trod enc Tryz.prog w 0 (fun _ => true) held 22 (.slice ao len cap) d p) :
    ∃ ts : Ths, len = ts.length ∧ ThsIn w (.slice ao ts.length cap) ts ∧ (ts = [] ∨ ∃ els sp, d = .slice els sp ∧ els.length = ts.length) := by
  obtain ⟨l, rfl, hr, hm, hok, hn⟩ := slice_open (d := d) (p := p) (sz := 1) (e := 25) (fun _ => rfl) (by decide) Tryz.underlying22 (by kernel_rfl) txRows_elem h
  exact ⟨l, rfl, ⟨hr, fun q hq => (hok q hq).1, hm, fun q hq => (hok q hq).2.1, fun q hq => (hok q hq).2.2.1, fun q hq => (hok q hq).2.2.2⟩, hn⟩
end Go.Proofs.YtgodmogkhgilmaaGreatDoor

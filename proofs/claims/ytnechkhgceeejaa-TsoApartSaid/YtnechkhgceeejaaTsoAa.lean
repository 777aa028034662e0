/- Package tso: acts, as TsoApart takes them. -/
import Derived.Test.YtnechkhgceeejaaTsoLaw
import Derived.Test.YtnechkhgceeejaaPlayF
namespace Go.Proofs.Ytnechkhgceeejaa
open Go.RowKit
set_option linter.unusedVariables false
set_option linter.unusedSimpArgs false

structure ActD where
  kind : Int
  th : Int
  n : Int
def encAc (a : ActD) : List Value := [.int .i64 a.kind, .int .i64 a.th, .int .i64 a.n]
theorem encAc_len (a : ActD) : (encAc a).length = 3 := rfl
def ActOk (a : ActD) : Prop := in64 a.kind ∧ in64 a.th ∧ in64 a.n
set_option maxRecDepth 100000 in
theorem act_elem {H : Type} {enc : TypeId × Value → H} {w : World} {held : Bool} (fuel : Nat) (cs : List Value) (x : DataW H × List MemPlace) (h : DataW.trod enc Try.prog w 0 (fun _ => true) held fuel 69 cs = some x) : ∃ a, cs = encAc a ∧ ActOk a := by
  obtain ⟨xs, n, _, rfl, hl, hlen, hf⟩ := DataW.trod_struct Try.underlying69 h
  rw [show Try.prog.cellsOf 69 = 3 from by kernel_rfl] at hl
  match xs, hlen with
  | [y0, y1, y2], _ =>
  have e2 : Try.prog.cellsOf 3 = 1 := by kernel_rfl
  obtain ⟨v0, h0, -, w0⟩ := DataW.trod_int Try.underlying3 (hf 0 _ rfl)
  obtain ⟨v1, h1, -, w1⟩ := DataW.trod_int Try.underlying3 (hf 1 _ rfl)
  obtain ⟨v2, h2, -, w2⟩ := DataW.trod_int Try.underlying3 (hf 2 _ rfl)
  match cs, hl with
  | [c0, c1, c2], _ =>
    simp [e2] at h0 h1 h2
    exact ⟨⟨v0, v1, v2⟩, by simp [encAc, h0, h1, h2], wf_i64 w0, wf_i64 w1, wf_i64 w2⟩

/-- a machine behind one act -/
def MM.does (m : MM) (a : ActD) : MM := if a.kind = 1 then (m.flush a.th).2 else (m.step a.th).2
def MM.doAll (m : MM) (l : List ActD) : MM := l.foldl MM.does m
theorem MM.doAll_snoc (m : MM) {l : List ActD} {k : Nat} {a : ActD} (h : l[k]? = some a) : m.doAll (l.take (k + 1)) = (m.doAll (l.take k)).does a := by
  rw [take_snoc h, MM.doAll, List.foldl_append]; rfl
end Go.Proofs.Ytnechkhgceeejaa

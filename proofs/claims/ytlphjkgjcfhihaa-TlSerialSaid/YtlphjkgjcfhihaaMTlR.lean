/- Put together by merge.py out of XTlR.lean.tpl, XTlW.lean.tpl. -/
import Derived.Test.YtlphjkgjcfhihaaTlP
import Derived.Test.YtlphjkgjcfhihaaWrap
import Derived.ProofKit
import Derived.Lib.SmallJoins
namespace Go.Proofs.Ytlphjkgjcfhihaa
open Go.RowKit
set_option linter.unusedVariables false
set_option linter.unusedSimpArgs false

section
theorem txInfo : (Try.prog.info? 37).map (fun i => (i.zero, i.size, i.bytes)) = some (some (.agg #[.int .i64 0, .int .u8 0, .int .i64 0, .int .i64 0]), 4, 32) := by kernel_rfl
theorem one_tx (x : Tx) : ∀ u ∈ encTx x, u.oneCell' = true := by
  intro u hu
  simp [encTx] at hu
  rcases hu with rfl | rfl | rfl | rfl <;> rfl
theorem one_txs (l : List Tx) : ∀ u ∈ l.flatMap encTx, u.oneCell' = true := by
  intro u hu
  obtain ⟨x, _, hx⟩ := List.mem_flatMap.1 hu
  exact one_tx x u hx

/-- an empty literal slice is a row of its own -/
theorem own_empty (w : World) (e : TypeId) (size : Nat) : (w.alloc (.cells #[] e)).ownsRow w.heap.size e size (.slice (some ⟨w.heap.size, 0, none⟩) 0 0) 0 [] :=
  own_of_full (by rw [block_new]) (Nat.le_refl _) (by unfold maxLen; omega) (by simp)

theorem rdt_cap {α : Type} {enc : α → List Value} {w : World} {sz : Nat} {ao : Option Addr} {n cap : Nat} {l : List α} (h : RdT enc w sz (.slice ao n cap) l) : n ≤ cap := by
  obtain ⟨_, ao', cap', hv, h2, _⟩ := h
  simp only [Value.slice.injEq] at hv
  obtain ⟨rfl, rfl, rfl⟩ := hv
  exact h2
theorem rdt_take {α : Type} {enc : α → List Value} {w : World} {sz : Nat} {ao : Option Addr} {n cap : Nat} {l r : List α} (h : RdT enc w sz (.slice ao n cap) (l ++ r)) (he : ∀ a, (enc a).length = sz := by intro a; rfl) : RdT enc w sz (.slice ao l.length cap) l := by
  obtain ⟨_, ao', cap', hv, h2, h3⟩ := h
  simp only [Value.slice.injEq] at hv
  obtain ⟨rfl, rfl, rfl⟩ := hv
  refine ⟨flat_len he l, ao, cap, rfl, by simp at h2; omega, fun hl => ?_⟩
  obtain ⟨b, off, e, hb, hc⟩ := h3 (by simp; omega)
  refine ⟨b, off, e, hb, fun j u hj => hc j u ?_⟩
  rw [List.flatMap_append, List.getElem?_append_left (List.getElem?_eq_some_iff.1 hj).1]
  exact hj

theorem refused_both {words threads : Int} {n k : Nat} {e : Int} (h : RunRefused words threads n = some e) : ∃ f, RunRefused words threads (n + k) = some f ∧ f = e ∧ e ≠ 0 := by
  unfold RunRefused at *
  split at h
  · rename_i hc
    cases h
    exact ⟨1, by rw [if_pos hc], rfl, by decide⟩
  · rename_i hc
    split at h
    · rename_i hd
      cases h
      exact ⟨3, by rw [if_neg hc, if_pos (by omega)], rfl, by decide⟩
    · cases h
theorem refused_more {words threads : Int} {n k : Nat} {e : Int} (h : RunRefused words threads n = none) (h2 : RunRefused words threads (n + k) = some e) : e = 3 := by
  unfold RunRefused at *
  split at h
  · cases h
  · rename_i hc
    rw [if_neg hc] at h2
    split at h2
    · cases h2; rfl
    · cases h2
theorem refused_none {words threads : Int} {n : Nat} (h : RunRefused words threads n = none) : ∃ a b : Nat, words = a ∧ threads = b ∧ a ≤ 65536 ∧ b ≤ 4 ∧ n ≤ 65536 := by
  unfold RunRefused at h
  split at h
  · cases h
  · split at h
    · cases h
    · exact ⟨words.toNat, threads.toNat, by omega, by omega, by omega, by omega, by omega⟩
end

section
theorem list_four {α : Type} (l : List α) (h : l.length = 4) : ∃ a b c d, l = [a, b, c, d] := by
  match l, h with
  | [a, b, c, d], _ => exact ⟨a, b, c, d, rfl⟩

theorem tx_elem {H : Type} {enc : TypeId × Value → H} {w : World} {held : Bool} (fuel : Nat) (cs : List Value) (x : DataW H × List MemPlace) (h : DataW.trod enc Try.prog w 0 (fun _ => true) held fuel 37 cs = some x) : ∃ a, cs = encTx a ∧ True := by
  obtain ⟨y0, y1, y2, y3, n, hx, hl, h0, h1, h2, h3⟩ := Go.Joins.trod_struct4 Try.underlying37 h
  obtain ⟨a, ha, -, -⟩ := DataW.trod_int Try.underlying3 h0
  obtain ⟨k, hk, -, hkw⟩ := DataW.trod_int Try.underlying35 h1
  obtain ⟨b, hb, -, -⟩ := DataW.trod_int Try.underlying3 h2
  obtain ⟨c, hc, -, -⟩ := DataW.trod_int Try.underlying2 h3
  rw [show Try.prog.cellsOf 37 = 4 from by kernel_rfl] at hl
  rw [show Try.prog.cellsOf 3 = 1 from by kernel_rfl] at ha hb
  rw [show Try.prog.cellsOf 35 = 1 from by kernel_rfl] at hk
  rw [show Try.prog.cellsOf 2 = 1 from by kernel_rfl] at hc
  obtain ⟨c0, c1, c2, c3, rfl⟩ := list_four cs hl
  simp at ha hk hb hc
  exact ⟨⟨a, k, b, c⟩, by simp [encTx, ha, hk, hb, hc], trivial⟩
end

end Go.Proofs.Ytlphjkgjcfhihaa

/- TsoNames: code of several rows; what Fleet's machines tell. -/
import Derived.Test.YtopdcjimpdalpaaGreatTsoW
import Derived.Test.YtopdcjimpdalpaaGreatTsoEv
import Derived.Test.YtopdcjimpdalpaaGreatTsoZ
namespace Go.Proofs.YtopdcjimpdalpaaGreat
open Go.RowKit
set_option linter.unusedVariables false
set_option linter.unusedSimpArgs false

variable {w w' : World} {base b : Nat}

/-- code out of a literal list of rows -/
theorem lit_code {g : Nat} {T : TypeId} {l : List (Value × List OpD)} (hg : w.heap[g]? = some (.cells (l.flatMap encC).toArray T (0, 0))) (he : ∀ p ∈ l, RdT encOp w 6 p.1 p.2) (hw : ∀ p ∈ l, ∀ o ∈ p.2, wfOp o) :
    CodeAt w (.slice (some ⟨g, 0, none⟩) l.length l.length) l :=
  ⟨⟨flat_len encC_len l, some ⟨g, 0, none⟩, l.length, rfl, Nat.le_refl _, fun _ => ⟨g, 0, rfl, lt_of_block hg, fun j u hj => by
    rw [Nat.zero_add]
    exact cell_of_block hg (by rw [List.getElem?_toArray]; exact hj)⟩⟩, he, hw⟩
/-- a row of literals -/
theorem lit_ops {g : Nat} {l : List OpD} (hg : w.heap[g]? = some (.cells (l.flatMap encOp).toArray 107 (0, 0))) : RdT encOp w 6 (.slice (some ⟨g, 0, none⟩) l.length l.length) l :=
  ⟨flat_len encOp_len l, some ⟨g, 0, none⟩, l.length, rfl, Nat.le_refl _, fun _ => ⟨g, 0, rfl, lt_of_block hg, fun j u hj => by
    rw [Nat.zero_add]
    exact cell_of_block hg (by rw [List.getElem?_toArray]; exact hj)⟩⟩
theorem seen_f {ms : List Mach} (hf : Fleet w base ms) {i : Nat} {m : Mach} (hi : ms[i]? = some m) (hN : m.N ≤ 1000000000) :
    Calls Tryz.prog 68 #[.pointer (some ⟨m.b, 0, none⟩)] w (SeenPost m.mm w) := by
  obtain ⟨⟨xs, mv, tv, ev, hm⟩, hk⟩ := hf.each m (List.mem_of_getElem? hi)
  exact seen_l (MLive.of hm hk) hN
theorem events_f {ms : List Mach} (hf : Fleet w base ms) {i : Nat} {m : Mach} (hi : ms[i]? = some m) (hN : m.N ≤ 1000000000) :
    Calls Tryz.prog 69 #[.pointer (some ⟨m.b, 0, none⟩)] w (CloneRow 127 4 encEv m.mm.evs w) := by
  obtain ⟨⟨xs, mv, tv, ev, hm⟩, hk⟩ := hf.each m (List.mem_of_getElem? hi)
  exact events_any hm (Nat.le_trans hk.evs hN)
end Go.Proofs.YtopdcjimpdalpaaGreat

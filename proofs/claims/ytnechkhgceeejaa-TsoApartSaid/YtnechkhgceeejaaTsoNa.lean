/- TsoNames: code of several rows; what Fleet's machines tell. -/
import Derived.Test.YtnechkhgceeejaaTsoW
import Derived.Test.YtnechkhgceeejaaTsoEv
import Derived.Test.YtnechkhgceeejaaTsoZ
namespace Go.Proofs.Ytnechkhgceeejaa
open Go.RowKit
set_option linter.unusedVariables false
set_option linter.unusedSimpArgs false

variable {w w' : World} {base b : Nat}

/-- code out of a literal list of rows -/
theorem lit_code {g : Nat} {T : TypeId} {l : List (Value × List OpD)} (hg : w.heap[g]? = some (.cells (l.flatMap encC).toArray T (0, 0))) (he : ∀ p ∈ l, RdT encOp w 6 p.1 p.2) (hw : ∀ p ∈ l, ∀ o ∈ p.2, wfOp o) :
    CodeAt w (.slice (some ⟨g, 0, none⟩) l.length l.length) l :=
  ⟨⟨flat_len encC_len l, some ⟨g, 0, none⟩, l.length, rfl, Nat.le_refl _, fun _ => ⟨g, 0, rfl, lt_of_block hg, fun j u hj => by
    rw [Nat.zero_add]
    exact cell_of_block hg (by rw [List.getElem?_toArray]; exact hj)⟩⟩, he, hw⟩
/-- a row of literals -/
theorem lit_ops {g : Nat} {l : List OpD} (hg : w.heap[g]? = some (.cells (l.flatMap encOp).toArray 25 (0, 0))) : RdT encOp w 6 (.slice (some ⟨g, 0, none⟩) l.length l.length) l :=
  ⟨flat_len encOp_len l, some ⟨g, 0, none⟩, l.length, rfl, Nat.le_refl _, fun _ => ⟨g, 0, rfl, lt_of_block hg, fun j u hj => by
    rw [Nat.zero_add]
    exact cell_of_block hg (by rw [List.getElem?_toArray]; exact hj)⟩⟩
/-- made, beside other machines -/
theorem made_f {ca : Option Addr} {ccap : Nat} {l : List (Value × List OpD)} {ms : List Mach} (hf : Fleet w base ms) (h : CodeAt w (.slice ca l.length ccap) l) (mem : Int) (hl : l.length ≤ 6000000000000) (hk : checkM mem l [] = 0) :
    Calls Try.prog 13 #[.int .i64 mem, .slice ca l.length ccap] w fun e w' => ∃ b own', e = .returned (.pointer (some ⟨b, 0, none⟩)) ∧ Fleet w' base (ms ++ [⟨b, own', newM mem (l.map (·.2)) [], 0⟩]) ∧ Below w.heap.size w w' := by
  refine (made_l h mem hl hk).mono ?_
  rintro e w' ⟨b, rfl, ⟨own, xs, mv, tv, ev, hm, -, hok⟩, hb⟩
  obtain ⟨own', h'⟩ := hf.more hb hm hok
  exact ⟨b, own', rfl, h', hb⟩
theorem register_f {ms : List Mach} (hf : Fleet w base ms) {i : Nat} {m : Mach} (hi : ms[i]? = some m) {n r : Nat} {t : MT} (ht : m.mm.ths[n]? = some t) (hr : r < 8) :
    Calls Try.prog 15 #[.pointer (some ⟨m.b, 0, none⟩), .int .i64 (n : Int), .int .i64 (r : Int)] w fun e w' => e = .returned (.tuple #[.int .i64 (t.reg r), .bool true]) ∧ w' = w := by
  obtain ⟨⟨xs, mv, tv, ev, hm⟩, hk⟩ := hf.each m (List.mem_of_getElem? hi)
  exact register_l (MLive.of hm hk) ht hr
theorem word_f {ms : List Mach} (hf : Fleet w base ms) {i : Nat} {m : Mach} (hi : ms[i]? = some m) (z : Int) :
    Calls Try.prog 16 #[.pointer (some ⟨m.b, 0, none⟩), .int .i64 z] w fun r w' => r = .returned (.tuple #[.int .i64 (if m.mm.has z = true then m.mm.at z else 0), .bool (m.mm.has z)]) ∧ w' = w := by
  obtain ⟨⟨xs, mv, tv, ev, hm⟩, hk⟩ := hf.each m (List.mem_of_getElem? hi)
  exact word_any hm hk.mem.2 z
theorem seen_f {ms : List Mach} (hf : Fleet w base ms) {i : Nat} {m : Mach} (hi : ms[i]? = some m) (hN : m.N ≤ 1000000000) :
    Calls Try.prog 18 #[.pointer (some ⟨m.b, 0, none⟩)] w (SeenPost m.mm w) := by
  obtain ⟨⟨xs, mv, tv, ev, hm⟩, hk⟩ := hf.each m (List.mem_of_getElem? hi)
  exact seen_l (MLive.of hm hk) hN
theorem events_f {ms : List Mach} (hf : Fleet w base ms) {i : Nat} {m : Mach} (hi : ms[i]? = some m) (hN : m.N ≤ 1000000000) :
    Calls Try.prog 21 #[.pointer (some ⟨m.b, 0, none⟩)] w (CloneRow 49 4 encEv m.mm.evs w) := by
  obtain ⟨⟨xs, mv, tv, ev, hm⟩, hk⟩ := hf.each m (List.mem_of_getElem? hi)
  exact events_any hm (Nat.le_trans hk.evs hN)
end Go.Proofs.Ytnechkhgceeejaa

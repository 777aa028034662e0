/- turnstilelaw01.Book: what its calls do over the lists of one kind. (Written by mkbookk.py.) -/
import Derived.Test.YtlphjkgjcfhihaaBookE
import Derived.Test.YtlphjkgjcfhihaaBookR
import Derived.Test.YtlphjkgjcfhihaaStep
import Derived.Deep.MidRow
import Derived.Deep.CutRange
import Derived.Deep.RegionHeld3
namespace Go.Proofs.Ytlphjkgjcfhihaa
open Go.RowKit
set_option linter.unusedVariables false
set_option linter.unusedSimpArgs false

/-- a list that the book has: where it lies, its number, how long it is -/
structure EntAttempt where
  lv : Value
  num : Int
  len : Nat
def encEntAttempt (e : EntAttempt) : List Value := [e.lv, .int .i64 e.num]
theorem encEntAttempt_len : ∀ e, (encEntAttempt e).length = 2 := fun _ => rfl
def markAttempt (n : Int) : List Value := [.int .i64 (-1000 - n), .int .u8 0, .int .i64 0, .int .i64 0, .int .i64 0, .int .i64 0, .bool false, .slice none 0 0]
def marksAttempt (k : Nat) (n : Int) : List Value := (List.replicate k (markAttempt n)).flatten

/-- a list is full of its mark -/
def MarkedAttempt (w : World) (base : Nat) (e : EntAttempt) : Prop := w.ownsRow base 73 8 e.lv e.len (marksAttempt e.len e.num)

/-- the blocks of this kind -/
def ownsAttempt (hv : Value) (es : List EntAttempt) (k : Nat) : Prop := hv.ownBlock = some k ∨ ∃ (i : Nat) (e : EntAttempt), es[i]? = some e ∧ e.lv.ownBlock = some k

theorem elemInfoAttempt : (Try.prog.info? 73).map (·.size) = some 8 := by kernel_rfl

theorem MarkedAttempt.keep {w w' : World} {base : Nat} {e : EntAttempt} (h : MarkedAttempt w base e) (hk : ∀ g, e.lv.ownBlock = some g → g < w.heap.size → w'.heap[g]? = w.heap[g]?) : MarkedAttempt w' base e := ownRow_keep h hk

theorem marksAttempt_succ (k : Nat) (n : Int) : marksAttempt (k + 1) n = marksAttempt k n ++ markAttempt n := by
  unfold marksAttempt
  rw [List.replicate_succ', List.flatten_append]
  simp
theorem marksAttempt_len (k : Nat) (n : Int) : (marksAttempt k n).length = k * 8 := by
  unfold marksAttempt
  simp [markAttempt]

theorem markAttempt_one (n : Int) : ∀ u ∈ markAttempt n, u.oneCell' = true := List.all_eq_true.1 (show (markAttempt n).all (·.oneCell') = true from rfl)

theorem setCells_blockAttempt {t : TypeId} {f : Nat × Nat} (b : Nat) (B : List Value) : ∀ (vs mid A : List Value) (o : Nat) (w : World), w.heap[b]? = some (.cells (A ++ mid ++ B).toArray t f) → A.length = o → mid.length = vs.length →
    (w.setCells b o vs).heap[b]? = some (.cells (A ++ vs ++ B).toArray t f)
  | [], mid, A, o, w, h, _, hm => by
    have : mid = [] := List.eq_nil_of_length_eq_zero (by simpa using hm)
    subst this
    exact h
  | v :: r, [], A, o, w, h, _, hm => by simp at hm
  | v :: r, u :: mid, A, o, w, h, hA, hm => by
    have h1 := block_setCell (o := o) v h
    have e1 : ((A ++ u :: mid ++ B).toArray.setIfInBounds o v) = (A ++ [v] ++ mid ++ B).toArray := by
      subst hA
      simp [List.setIfInBounds_toArray, List.set_append]
    rw [e1] at h1
    have := setCells_blockAttempt b B r mid (A ++ [v]) (o + 1) (w.setCell ⟨b, o, none⟩ v) h1 (by simp [hA]) (by simpa using hm)
    simpa [World.setCells] using this

theorem Chg.setCellsAttempt {S : Nat → Prop} {a : World} {b : Nat} (hS : S b) : ∀ (vs : List Value) (o : Nat) {w : World}, Chg S a w → Chg S a (w.setCells b o vs)
  | [], _, _, h => h
  | v :: r, o, w, h => by
    rw [World.setCells]
    exact Chg.setCellsAttempt hS r (o + 1) (h.setCell (p := ⟨b, o, none⟩) (.inl hS) v)
theorem heapSize_setCellsAttempt (b : Nat) : ∀ (vs : List Value) (o : Nat) (w : World), (w.setCells b o vs).heap.size = w.heap.size
  | [], _, _ => rfl
  | v :: r, o, w => by rw [World.setCells, heapSize_setCellsAttempt b r]; simp [World.setCell]
/-- the cells of a row are written from a place on -/
theorem setCells_rowAttempt {w : World} {base : Nat} {g n cap j : Nat} {cs vs : List Value} (h : w.ownsRow base 73 8 (.slice (some ⟨g, 0, none⟩) n cap) n cs) (hv : vs.length = 8) (hj : j < n) :
    (w.setCells g (j * 8) vs).ownsRow base 73 8 (.slice (some ⟨g, 0, none⟩) n cap) n (cs.take (j * 8) ++ vs ++ cs.drop (j * 8 + 8)) := by
  rcases h.2 with ⟨hv', _⟩ | ⟨g', cap', cur, hv', hb, hg, hc, hm, hs, ht⟩
  · simp at hv'
  · simp only [Value.slice.injEq, Option.some.injEq, Addr.mk.injEq, and_true, true_and] at hv'
    obtain ⟨rfl, rfl⟩ := hv'
    have hl := h.1
    have hcl : cur.toList.length = cap * 8 := by simpa using hs
    have hle : n * 8 ≤ cap * 8 := Nat.mul_le_mul_right _ hc
    have hjn : j * 8 + 8 ≤ n * 8 := by omega
    have e1 : cur.toList = cs.take (j * 8) ++ (cs.drop (j * 8)).take 8 ++ (cs.drop (j * 8 + 8) ++ cur.toList.drop (n * 8)) := by
      conv => lhs; rw [← List.take_append_drop (n * 8) cur.toList, ht]
      rw [← List.append_assoc]
      congr 1
      rw [List.append_assoc]
      conv => lhs; rw [← List.take_append_drop (j * 8) cs]
      congr 1
      rw [← List.drop_drop]
      exact (List.take_append_drop 8 (cs.drop (j * 8))).symm
    have e2 := setCells_blockAttempt g (cs.drop (j * 8 + 8) ++ cur.toList.drop (n * 8)) vs ((cs.drop (j * 8)).take 8) (cs.take (j * 8)) (j * 8) w (by rw [← e1]; exact hg) (by rw [List.length_take, hl]; omega) (by rw [List.length_take, List.length_drop, hl, hv]; omega)
    refine ⟨?_, .inr ⟨g, cap, _, rfl, hb, e2, hc, hm, ?_, ?_⟩⟩
    · simp [hl, hv]; omega
    · simp only [List.size_toArray, List.length_append, List.length_take, List.length_drop, hl, hv, hcl]; omega
    · rw [← List.append_assoc]
      exact List.take_left' (by simp only [List.length_append, List.length_take, List.length_drop, hl, hv]; omega)

theorem heap_setCells_otherAttempt {w : World} {b k : Nat} (hk : k ≠ b) : ∀ (vs : List Value) (o : Nat), (w.setCells b o vs).heap[k]? = w.heap[k]? := fun vs o => by
  rcases Nat.lt_or_ge k w.heap.size with h | h
  · exact (Chg.setCellsAttempt (S := fun j => j = b) rfl vs o (Chg.refl _ w)).block k h hk
  · rw [Array.getElem?_eq_none h, Array.getElem?_eq_none (by rw [heapSize_setCellsAttempt]; exact h)]

/-- behind the call of mark: what the region finds -/
theorem fillAttempt_step {w w4 : World} {base g hg ko n lc j : Nat} {cs : List Value} {num : Int} {u : Value} {c : Array Value} (hcs : w.ownsRow base 73 8 (.slice (some ⟨g, 0, none⟩) n lc) n cs) (hj : j < n) (hgg : ¬ hg = g) (hlt : hg < w.heap.size)
    (k0 : w.cell? ⟨hg, ko, none⟩ = some u) (k1 : w.cell? ⟨hg, ko + 1, none⟩ = some (.int .i64 num)) (hb : Below w.drew.heap.size w.drew w4) (hcl : c.toList = markAttempt num) (hcz : c.size = 8) :
    w4.cell? ⟨hg, ko, none⟩ = some u ∧ w4.cell? ⟨hg, ko + 1, none⟩ = some (.int .i64 num) ∧ (w4.setCells g (j * 8) c.toList).cell? ⟨hg, ko, none⟩ = some u ∧ (w4.setCells g (j * 8) c.toList).cell? ⟨hg, ko + 1, none⟩ = some (.int .i64 num) ∧
      Sem.run Try.prog (storeCells ⟨g, j * 8, none⟩ c.toList 0) w4 = .ok () (w4.setCells g (j * 8) c.toList) := by
  have e0 : w4.cell? ⟨hg, ko, none⟩ = some u := (hb.cell (by exact hlt)).trans k0
  have e1 : w4.cell? ⟨hg, ko + 1, none⟩ = some (.int .i64 num) := (hb.cell (by exact hlt)).trans k1
  refine ⟨e0, e1, ?_, ?_, ?_⟩
  · rw [World.cell?_of_block (heap_setCells_otherAttempt hgg _ _)]; exact e0
  · rw [World.cell?_of_block (heap_setCells_otherAttempt hgg _ _)]; exact e1
  · have hown4 : w4.ownsRow base 73 8 (.slice (some ⟨g, 0, none⟩) n lc) n cs := ownRow_keep hcs fun b _ hb' => hb.block b hb'
    obtain ⟨g', cur, e2, _, hgb, hnc, _⟩ := ownsRow_some hown4 (by omega)
    simp only [Option.some.injEq, Addr.mk.injEq, and_true] at e2
    subst e2
    have hsz : n * 8 ≤ cur.size := rowSize hown4 hgb
    have hin : ∀ i, i < 8 → j * 8 + i < cur.size := fun i hi => by omega
    have := run_storeCells_cells (P := Try.prog) g (j * 8) c.toList 0 w4 (fun i hi => by
        rw [Nat.add_zero, cell_of_block hgb (Array.getElem?_eq_getElem (hin i (by simpa [hcz] using hi)))]; rfl) (fun i _ => free_of_block hgb)
      (fun v hv => by rw [hcl] at hv; exact markAttempt_one num v hv)
    simpa using this

theorem infoAttempt : (Try.prog.info? 73).map (fun i => (i.zero, i.size, i.bytes)) = some (some (.agg #[.int .i64 0, .int .u8 0, .int .i64 0, .int .i64 0, .int .i64 0, .int .i64 0, .bool false, .slice none 0 0]), 8, 80) := by kernel_rfl

theorem marksAttempt_at (k : Nat) (n : Int) {j : Nat} (hj : j < k) (i : Nat) (u : Value) (hu : (markAttempt n)[i]? = some u) : (marksAttempt k n)[j * 8 + i]? = some u := by
  have e : marksAttempt k n = (List.replicate k ()).flatMap (fun _ => markAttempt n) := by simp [marksAttempt, List.flatMap]
  rw [e]
  exact flat_at (enc := fun _ : Unit => markAttempt n) (sz := 8) (fun _ => rfl) (List.replicate k ()) (k := j) (x := ()) (by rw [List.getElem?_replicate, if_pos hj]) i u hu

theorem encEntAttempt_one (e : EntAttempt) {ao : Option Addr} {n c : Nat} (h : e.lv = .slice ao n c) : ∀ u ∈ encEntAttempt e, u.oneCell' = true := by
  intro u hu
  simp only [encEntAttempt, List.mem_cons, List.not_mem_nil, or_false] at hu
  rcases hu with rfl | rfl
  · rw [h]; rfl
  · rfl

theorem keepAllAttempt {w w' : World} {base : Nat} {hv : Value} {es : List EntAttempt} (h : ∀ (i : Nat) e, es[i]? = some e → MarkedAttempt w base e) (hk : ∀ g, ownsAttempt hv es g → g < w.heap.size → w'.heap[g]? = w.heap[g]?) : ∀ (i : Nat) e, es[i]? = some e → MarkedAttempt w' base e :=
  fun i e he => (h i e he).keep fun g hg hl => hk g (.inr ⟨i, e, he, hg⟩) hl
end Go.Proofs.Ytlphjkgjcfhihaa

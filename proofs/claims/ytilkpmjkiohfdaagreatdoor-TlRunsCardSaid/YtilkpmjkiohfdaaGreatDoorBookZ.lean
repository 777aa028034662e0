/- An empty turnstilelaw01.Book: its zero value, in a block. -/
import Derived.Test.YtilkpmjkiohfdaaGreatDoorBookR
namespace Go.Proofs.YtilkpmjkiohfdaaGreatDoor
open Go.RowKit
set_option linter.unusedVariables false
set_option linter.unusedSimpArgs false

def zeroBook : Array Value := (.int .i64 0 :: List.replicate 27 (.slice none 0 0)).toArray
theorem zero_book (w : World) : (zeroValue 60).run Tryz.prog w = .ok (.agg zeroBook) w := by kernel_rfl
theorem zbook_size : zeroBook.size = 28 := by decide +kernel
theorem zbook_one : zeroBook.all (·.oneCell') = true := by decide +kernel
theorem zbook_info : (Tryz.prog.info? 60).map (·.size) = some zeroBook.size := by kernel_rfl
theorem zbook_at (i : Nat) (h0 : 0 < i) (h : i < 28) : zeroBook[i]? = some (.slice none 0 0) := by
  unfold zeroBook
  obtain ⟨j, rfl⟩ : ∃ j, i = j + 1 := ⟨i - 1, by omega⟩
  rw [List.getElem?_toArray, List.getElem?_cons_succ, List.getElem?_replicate, if_pos (by omega)]
theorem zbook_0 : zeroBook[0]? = some (.int .i64 0) := by kernel_rfl
theorem book_setF {C : Array Value} {hv x : Value} {f : Nat} (hs : C.size = 28) (h0 : 0 < f) (hf : f < 28) : ((C.setIfInBounds f hv).setIfInBounds 0 x)[f]? = some hv := by
  rw [Array.getElem?_setIfInBounds_ne (by omega), Array.getElem?_setIfInBounds_self, if_pos (by omega)]
theorem book_set0 {C : Array Value} {hv x : Value} {f : Nat} (hs : C.size = 28) : ((C.setIfInBounds f hv).setIfInBounds 0 x)[0]? = some x := by
  rw [Array.getElem?_setIfInBounds_self, if_pos (by rw [Array.size_setIfInBounds]; omega)]
theorem book_setN {C : Array Value} {hv x : Value} {i f : Nat} (h0 : i ≠ 0) (hf : i ≠ f) : ((C.setIfInBounds f hv).setIfInBounds 0 x)[i]? = C[i]? := by
  rw [Array.getElem?_setIfInBounds_ne (by omega), Array.getElem?_setIfInBounds_ne (by omega)]
theorem book_store (w : World) : Sem.run Tryz.prog (storeCells ⟨w.heap.size, 0, none⟩ zeroBook.toList 0) (w.alloc (.cells zeroBook 60)) = .ok () ((w.alloc (.cells zeroBook 60)).setCells w.heap.size 0 zeroBook.toList) := by
  have hb := block_new w (.cells zeroBook 60)
  have := run_storeCells_cells (P := Tryz.prog) w.heap.size 0 zeroBook.toList 0 (w.alloc (.cells zeroBook 60)) (fun i hi => by
      rw [Nat.add_zero, Nat.zero_add, cell_of_block hb (Array.getElem?_eq_getElem (by rw [Array.length_toList] at hi; exact hi))]; rfl) (fun i _ => free_of_block hb)
    (fun v hv => Array.all_eq_true_iff_forall_mem.1 zbook_one v (by simpa using hv))
  simpa using this

theorem setCells_part {t : TypeId} {f : Nat × Nat} (b : Nat) (B : List Value) : ∀ (vs mid A : List Value) (o : Nat) (w : World), w.heap[b]? = some (.cells (A ++ mid ++ B).toArray t f) → A.length = o → mid.length = vs.length →
    (w.setCells b o vs).heap[b]? = some (.cells (A ++ vs ++ B).toArray t f)
  | [], mid, A, o, w, h, _, hm => by
    have : mid = [] := List.eq_nil_of_length_eq_zero (by simpa using hm)
    subst this
    exact h
  | v :: r, [], A, o, w, h, _, hm => by simp at hm
  | v :: r, u :: mid, A, o, w, h, hA, hm => by
    have h1 := block_setCell (o := o) v h
    have e1 : ((A ++ u :: mid ++ B).toArray.setIfInBounds o v) = (A ++ [v] ++ mid ++ B).toArray := by
      subst hA
      simp [List.setIfInBounds_toArray, List.set_append]
    rw [e1] at h1
    have := setCells_part b B r mid (A ++ [v]) (o + 1) (w.setCell ⟨b, o, none⟩ v) h1 (by simp [hA]) (by simpa using hm)
    simpa [World.setCells] using this
theorem setCells_whole {w : World} {g : Nat} {c : Array Value} {t : TypeId} {f : Nat × Nat} {vs : List Value} (h : w.heap[g]? = some (.cells c t f)) (hl : c.size = vs.length) : (w.setCells g 0 vs).heap[g]? = some (.cells vs.toArray t f) := by
  have := setCells_part g [] vs c.toList [] 0 w (by simpa using h) rfl (by simpa using hl)
  simpa using this
theorem below_setCells {B : Nat} {a : World} {g : Nat} (hg : B ≤ g) (hB : B ≤ a.heap.size) : ∀ (vs : List Value) (o : Nat) {w : World}, Below B a w → Below B a (w.setCells g o vs)
  | [], _, _, h => h
  | v :: r, o, w, h => by
    rw [World.setCells]
    exact below_setCells hg hB r (o + 1) (Chg.below (S := fun k => k = g) h (Nat.le_trans hB h.size) ((Chg.refl (fun k => k = g) w).setCell (p := ⟨g, o, none⟩) (.inl rfl) v) (fun k hk => by omega))

theorem size_setCells (b : Nat) : ∀ (vs : List Value) (o : Nat) (w : World), (w.setCells b o vs).heap.size = w.heap.size
  | [], _, _ => rfl
  | v :: r, o, w => by rw [World.setCells, size_setCells b r]; simp [World.setCell]
/-- a book that was just laid -/
theorem book_fresh (w : World) : ((w.alloc (.cells zeroBook 60)).setCells w.heap.size 0 zeroBook.toList).heap[w.heap.size]? = some (.cells zeroBook 60 (0, 0)) ∧
    Below w.heap.size w ((w.alloc (.cells zeroBook 60)).setCells w.heap.size 0 zeroBook.toList) ∧ w.heap.size < ((w.alloc (.cells zeroBook 60)).setCells w.heap.size 0 zeroBook.toList).heap.size := by
  refine ⟨?_, below_setCells (Nat.le_refl _) (Nat.le_refl _) _ 0 ((Below.refl _ _).alloc (Nat.le_refl _) _), by rw [size_setCells]; simp⟩
  have h := setCells_whole (vs := zeroBook.toList) (block_new w (.cells zeroBook 60)) Array.length_toList.symm
  rwa [show zeroBook.toList.toArray = zeroBook from Array.toArray_toList] at h
end Go.Proofs.YtilkpmjkiohfdaaGreatDoor

/- What the texts of turnstilelaw01.Book share, whatever the kind. -/
import Derived.Test.YtopdcjimpdalpaaGreatBase
import Derived.Test.YtopdcjimpdalpaaGreatFlat
namespace Go.Proofs.YtopdcjimpdalpaaGreat
open Go.RowKit

theorem rowLen {w : World} {base : Nat} {e : TypeId} {size : Nat} {v : Value} {n : Nat} {xs : List Value} (h : w.ownsRow base e size v n xs) : n ≤ 9223372036854775807 := by
  rcases h.2 with ⟨_, rfl⟩ | ⟨g', cap, cur, rfl, hb, hg, hc, hm, _⟩
  · omega
  · unfold maxLen at hm; omega

theorem rowLt {w : World} {base : Nat} {e : TypeId} {size : Nat} {v : Value} {n : Nat} {xs : List Value} (h : w.ownsRow base e size v n xs) {g : Nat} (hg : v.ownBlock = some g) : base ≤ g ∧ g < w.heap.size := by
  rcases h.2 with ⟨rfl, _⟩ | ⟨g', cap, cur, rfl, hb, hgg, _⟩
  · cases hg
  · simp only [Value.ownBlock, Option.some.injEq] at hg
    subst hg
    exact ⟨hb, lt_of_block hgg⟩
theorem flatSet {α : Type} {enc : α → List Value} {sz : Nat} (he : ∀ a, (enc a).length = sz) (l : List α) : ∀ {k : Nat} {x y : α} {j : Nat} {u : Value}, l[k]? = some x → enc y = (enc x).set j u → j < sz → (l.set k y).flatMap enc = (l.flatMap enc).set (k * sz + j) u := by
  induction l with
  | nil => intro k x y j u h; simp at h
  | cons a l ih =>
    intro k x y j u h hy hj
    cases k with
    | zero =>
      simp only [List.getElem?_cons_zero, Option.some.injEq] at h
      subst h
      rw [List.set_cons_zero, List.flatMap_cons, List.flatMap_cons, hy, Nat.zero_mul, Nat.zero_add, List.set_append_left _ _ (by rw [he]; exact hj)]
    | succ k =>
      simp only [List.getElem?_cons_succ] at h
      rw [List.set_cons_succ, List.flatMap_cons, List.flatMap_cons, ih h hy hj, List.set_append_right _ _ (by rw [he, Nat.add_mul]; omega), he]
      congr 2
      rw [Nat.add_mul]; omega
theorem rowSet {α : Type} {enc : α → List Value} {sz : Nat} (he : ∀ a, (enc a).length = sz) {w : World} {base : Nat} {e : TypeId} {g o n c : Nat} {l : List α} (h : w.ownsRow base e sz (.slice (some ⟨g, o, none⟩) n c) n (l.flatMap enc))
    {k : Nat} {x y : α} {j : Nat} {u : Value} (hx : l[k]? = some x) (hy : enc y = (enc x).set j u) (hj : j < sz) :
    o = 0 ∧ (w.setCell ⟨g, k * sz + j, none⟩ u).ownsRow base e sz (.slice (some ⟨g, o, none⟩) n c) n ((l.set k y).flatMap enc) := by
  rcases h.2 with ⟨hv, _⟩ | ⟨g', cap, cur, hv, hb, hg, hc, hm, hs, ht⟩
  · simp at hv
  · simp only [Value.slice.injEq, Option.some.injEq, Addr.mk.injEq, and_true, true_and] at hv
    obtain ⟨⟨rfl, rfl⟩, rfl⟩ := hv
    refine ⟨rfl, by rw [flatSet he l hx hy hj, List.length_set]; exact h.1, .inr ⟨g, c, cur.setIfInBounds (k * sz + j) u, rfl, hb, block_setCell u hg, hc, hm, by simpa using hs, ?_⟩⟩
    rw [Array.toList_setIfInBounds, List.take_set, ht, flatSet he l hx hy hj]

theorem ownRow_keep {w w' : World} {base : Nat} {e : TypeId} {size : Nat} {v : Value} {n : Nat} {xs : List Value} (h : w.ownsRow base e size v n xs) (hk : ∀ g, v.ownBlock = some g → g < w.heap.size → w'.heap[g]? = w.heap[g]?) : w'.ownsRow base e size v n xs := by
  refine ⟨h.1, ?_⟩
  rcases h.2 with hn | ⟨g', cap, cur, rfl, hb, hgg, rest⟩
  · exact .inl hn
  · refine .inr ⟨g', cap, cur, rfl, hb, ?_, rest⟩
    rw [hk g' rfl (Array.getElem?_eq_some_iff.1 hgg).1]
    exact hgg

theorem rowSize {w : World} {base : Nat} {e : TypeId} {size : Nat} {g n cap : Nat} {xs : List Value} {cur : Array Value} (h : w.ownsRow base e size (.slice (some ⟨g, 0, none⟩) n cap) n xs) (hg : w.heap[g]? = some (.cells cur e (0, 0))) : n * size ≤ cur.size := by
  rcases h.2 with ⟨hv, _⟩ | ⟨g', cap', cur', hv, hb, hg', hc, hm, hs, ht⟩
  · simp at hv
  · simp only [Value.slice.injEq, Option.some.injEq, Addr.mk.injEq, and_true, true_and] at hv
    obtain ⟨rfl, rfl⟩ := hv
    rw [hg] at hg'
    simp only [Option.some.injEq, Obj.cells.injEq, true_and] at hg'
    obtain ⟨rfl, _⟩ := hg'
    rw [hs]
    exact Nat.mul_le_mul_right _ hc

end Go.Proofs.YtopdcjimpdalpaaGreat

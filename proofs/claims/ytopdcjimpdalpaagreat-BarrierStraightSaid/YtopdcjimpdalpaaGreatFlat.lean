/- Slices of flat elements (each of so many cells), as lists: what they read as, that this stays, how one that came in is opened. -/
import Derived.Test.YtopdcjimpdalpaaGreatBase
namespace Go.Proofs.YtopdcjimpdalpaaGreat
open Go.RowKit

/-- slice value v of n elements of sz cells each reads as the cells xs -/
def Rd (w : World) (sz : Nat) (v : Value) (n : Nat) (xs : List Value) : Prop :=
  xs.length = n * sz ∧ ∃ ao cap, v = .slice ao n cap ∧ n ≤ cap ∧
    (0 < n → ∃ b off, ao = some ⟨b, off, none⟩ ∧ b < w.heap.size ∧ ∀ (j : Nat) u, xs[j]? = some u → w.cell? ⟨b, off + j, none⟩ = some u)

theorem Rd.shape {w : World} {sz : Nat} {v : Value} {n : Nat} {xs : List Value} (h : Rd w sz v n xs) : ∃ ao cap, v = .slice ao n cap := by
  obtain ⟨_, ao, cap, rfl, _⟩ := h
  exact ⟨ao, cap, rfl⟩

theorem Rd.nil (w : World) (sz : Nat) : Rd w sz (.slice none 0 0) 0 [] := ⟨by simp, none, 0, rfl, by simp, fun h => absurd h (by simp)⟩

theorem Rd.keep {w w' : World} {sz : Nat} {v : Value} {n : Nat} {xs : List Value} (h : Rd w sz v n xs)
    (hk : ∀ b, v.ownBlock = some b → b < w.heap.size → w'.heap[b]? = w.heap[b]?) : Rd w' sz v n xs := by
  obtain ⟨h1, ao, cap, rfl, h2, h3⟩ := h
  refine ⟨h1, ao, cap, rfl, h2, fun hn => ?_⟩
  obtain ⟨b, off, rfl, hb, hc⟩ := h3 hn
  have he := hk b rfl hb
  refine ⟨b, off, rfl, ?_, fun j u hj => ?_⟩
  · rcases Nat.lt_or_ge b w'.heap.size with h | h
    · exact h
    · rw [Array.getElem?_eq_none h, Array.getElem?_eq_getElem hb] at he; cases he
  · rw [World.cell?_of_block (w := w) he]; exact hc j u hj

theorem Rd.below {w w' : World} {sz : Nat} {v : Value} {n : Nat} {xs : List Value} (h : Rd w sz v n xs) (hb : Below w.heap.size w w') : Rd w' sz v n xs :=
  h.keep fun b _ hlt => hb.block b hlt
theorem Rd.chg {S : Nat → Prop} {w w' : World} {sz : Nat} {v : Value} {n : Nat} {xs : List Value} (h : Rd w sz v n xs) (hb : Chg S w w') (hs : ∀ b, v.ownBlock = some b → ¬ S b) : Rd w' sz v n xs :=
  h.keep fun b hv hlt => hb.block b hlt (hs b hv)
theorem Rd.alloc {w : World} {sz : Nat} {v : Value} {n : Nat} {xs : List Value} (h : Rd w sz v n xs) (o : Obj) : Rd (w.alloc o) sz v n xs :=
  h.below ((Below.refl _ _).alloc (Nat.le_refl _) o)
theorem Rd.lt {w : World} {sz : Nat} {v : Value} {n : Nat} {xs : List Value} (h : Rd w sz v n xs) (hn : 0 < n) : ∃ b, v.ownBlock = some b ∧ b < w.heap.size := by
  obtain ⟨h1, ao, cap, rfl, h2, h3⟩ := h
  obtain ⟨b, off, rfl, hb, hc⟩ := h3 hn
  exact ⟨b, rfl, hb⟩

theorem Rd.of_own {w : World} {base : Nat} {e : TypeId} {sz : Nat} {v : Value} {n : Nat} {xs : List Value} (h : w.ownsRow base e sz v n xs) : Rd w sz v n xs := by
  rcases h.2 with ⟨rfl, rfl⟩ | ⟨g, cap, cur, rfl, hb, hg, hc, hm, hs, ht⟩
  · have h1 := h.1
    simp only [Nat.zero_mul] at h1
    rw [List.length_eq_zero_iff.1 h1]
    exact Rd.nil w sz
  · refine ⟨h.1, some ⟨g, 0, none⟩, cap, rfl, hc, fun _ => ⟨g, 0, rfl, lt_of_block hg, fun j u hj => ?_⟩⟩
    rw [← ht, List.getElem?_take] at hj
    split at hj
    · rw [Nat.zero_add]
      exact cell_of_block hg (by simpa using hj)
    · cases hj

/-- a full row: the whole block is its cells -/
theorem own_full {w : World} {base : Nat} {e : TypeId} {sz : Nat} {g n : Nat} {xs : List Value} (h : w.ownsRow base e sz (.slice (some ⟨g, 0, none⟩) n n) n xs) : w.heap[g]? = some (.cells xs.toArray e (0, 0)) ∧ base ≤ g := by
  rcases h.2 with ⟨hv, _⟩ | ⟨g', cap, cur, hv, hb, hg, hc, hm, hs, ht⟩
  · simp at hv
  · simp only [Value.slice.injEq, Option.some.injEq, Addr.mk.injEq, and_true, true_and] at hv
    obtain ⟨rfl, rfl⟩ := hv
    have e1 : cur.toList = xs := by rw [← ht, List.take_of_length_le (by simp [hs])]
    exact ⟨by rw [hg, ← e1], hb⟩
theorem own_of_full {w : World} {base : Nat} {e : TypeId} {sz : Nat} {g n : Nat} {xs : List Value} (h : w.heap[g]? = some (.cells xs.toArray e (0, 0))) (hb : base ≤ g) (hm : n ≤ maxLen) (hl : xs.length = n * sz) :
    w.ownsRow base e sz (.slice (some ⟨g, 0, none⟩) n n) n xs :=
  ⟨hl, .inr ⟨g, n, xs.toArray, rfl, hb, h, Nat.le_refl _, hm, by simpa using hl, by simp [← hl]⟩⟩
theorem own_of_block {w : World} {base : Nat} {e : TypeId} {sz : Nat} {g n c : Nat} {xs ys : List Value} (h : w.heap[g]? = some (.cells (xs ++ ys).toArray e (0, 0))) (hb : base ≤ g) (hm : c ≤ maxLen) (hnc : n ≤ c) (hl : xs.length = n * sz) (hy : (xs ++ ys).length = c * sz) :
    w.ownsRow base e sz (.slice (some ⟨g, 0, none⟩) n c) n xs :=
  ⟨hl, .inr ⟨g, c, (xs ++ ys).toArray, rfl, hb, h, hnc, hm, by simpa using hy, by rw [← hl]; simp⟩⟩
theorem set2 (A : List Value) (a b x y : Value) (R : List Value) (i : Nat) (hi : A.length = i) : (((A ++ a :: b :: R).toArray.setIfInBounds i x).setIfInBounds (i + 1) y) = (A ++ x :: y :: R).toArray := by
  subst hi
  simp only [List.setIfInBounds_toArray, List.set_append, Nat.lt_irrefl, if_false, Nat.sub_self, List.set_cons_zero]
  rw [if_neg (by omega), show A.length + 1 - A.length = 1 from by omega]
  rfl

/-- of data l, each written as enc says -/
def RdT {α : Type} (enc : α → List Value) (w : World) (sz : Nat) (v : Value) (l : List α) : Prop := Rd w sz v l.length (l.flatMap enc)

theorem flat_len {α : Type} {enc : α → List Value} {sz : Nat} (he : ∀ a, (enc a).length = sz) (l : List α) : (l.flatMap enc).length = l.length * sz := by
  induction l with
  | nil => simp
  | cons a l ih => simp only [List.flatMap_cons, List.length_append, he, ih, List.length_cons, Nat.add_mul]; omega

theorem flat_at {α : Type} {enc : α → List Value} {sz : Nat} (he : ∀ a, (enc a).length = sz) (l : List α) : ∀ {k : Nat} {x : α}, l[k]? = some x → ∀ (j : Nat) u, (enc x)[j]? = some u → (l.flatMap enc)[k * sz + j]? = some u := by
  induction l with
  | nil => intro k x h; simp at h
  | cons a l ih =>
    intro k x h j u hj
    simp only [List.flatMap_cons]
    cases k with
    | zero =>
      simp only [List.getElem?_cons_zero, Option.some.injEq] at h
      subst h
      rw [Nat.zero_mul, Nat.zero_add, List.getElem?_append_left (List.getElem?_eq_some_iff.1 hj).1]
      exact hj
    | succ k =>
      simp only [List.getElem?_cons_succ] at h
      rw [List.getElem?_append_right (by rw [he, Nat.add_mul]; omega), he, show (k + 1) * sz + j - sz = k * sz + j from by rw [Nat.add_mul]; omega]
      exact ih h j u hj

theorem RdT.at {α : Type} {enc : α → List Value} {w : World} {sz : Nat} (he : ∀ a, (enc a).length = sz) {ao : Option Addr} {n cap : Nat} {l : List α} (h : RdT enc w sz (.slice ao n cap) l) {k : Nat} {x : α} (hx : l[k]? = some x) :
    ∃ b off, ao = some ⟨b, off, none⟩ ∧ b < w.heap.size ∧ ∀ (j : Nat) u, (enc x)[j]? = some u → w.cell? ⟨b, off + k * sz + j, none⟩ = some u := by
  obtain ⟨h1, ao', cap', hv, h2, h3⟩ := h
  simp only [Value.slice.injEq] at hv
  obtain ⟨rfl, -, -⟩ := hv
  obtain ⟨b, off, e, hb, hc⟩ := h3 (by have := (List.getElem?_eq_some_iff.1 hx).1; omega)
  exact ⟨b, off, e, hb, fun j u hj => by rw [Nat.add_assoc]; exact hc _ u (flat_at he l hx j u hj)⟩

theorem RdT.len {α : Type} {enc : α → List Value} {w : World} {sz : Nat} {ao : Option Addr} {n cap : Nat} {l : List α} (h : RdT enc w sz (.slice ao n cap) l) : n = l.length := by
  obtain ⟨h1, ao', cap', hv, h2, h3⟩ := h
  simp only [Value.slice.injEq] at hv
  exact hv.2.1

theorem flat_snoc {α : Type} {enc : α → List Value} (l : List α) (x : α) : (l ++ [x]).flatMap enc = l.flatMap enc ++ enc x := by simp

theorem take_snoc {α : Type} {l : List α} {k : Nat} {x : α} (h : l[k]? = some x) : l.take (k + 1) = l.take k ++ [x] := by
  obtain ⟨hk, rfl⟩ := List.getElem?_eq_some_iff.1 h
  exact List.take_succ_eq_append_getElem hk
theorem some_at {α : Type} {l : List α} {k : Nat} (h : k < l.length) : ∃ x, l[k]? = some x := ⟨l[k], by simp [h]⟩

/-! ### the kinds of elements -/
/-- api.Cell: At, V -/
def encCell (c : Int × Int) : List Value := [.int .i64 c.1, .int .i64 c.2]
theorem encCell_len : ∀ a, (encCell a).length = 2 := fun _ => rfl

end Go.Proofs.YtopdcjimpdalpaaGreat

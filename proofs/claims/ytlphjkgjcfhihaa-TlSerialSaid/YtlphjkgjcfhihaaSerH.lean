/- turnstileref29: Sorted. (Written by mkserh.py.) -/
import Derived.Test.YtlphjkgjcfhihaaSerG
import Derived.Deep.CutRange
namespace Go.Proofs.Ytlphjkgjcfhihaa
open Go.RowKit
set_option linter.unusedVariables false
set_option linter.unusedSimpArgs false

variable {w w' : World}

/-! ### the order, as places in the list -/
def noAtt : Att := ⟨0, 0, 0, 0, 0, 0, false, []⟩
def attN (l : List Att) (j : Nat) : Att := (l[j]?).getD noAtt
def insN (l : List Att) (i : Nat) (out : List Nat) : List Nat := out.take (posTo (attN l i) (out.map (attN l)) out.length) ++ i :: out.drop (posTo (attN l i) (out.map (attN l)) out.length)
def sortN (l : List Att) : Nat → List Nat
  | 0 => []
  | k + 1 => if (attN l k).kind = 1 then insN l k (sortN l k) else sortN l k
theorem sortN_succ (l : List Att) (k : Nat) : sortN l (k + 1) = if (attN l k).kind = 1 then insN l k (sortN l k) else sortN l k := rfl
theorem sortN_map (l : List Att) : ∀ k, k ≤ l.length → (sortN l k).map (attN l) = (l.take k).foldl stepA [] := by
  intro k
  induction k with
  | zero => intro _; rfl
  | succ k ih =>
    intro hk
    have hx : l[k]? = some (attN l k) := by unfold attN; rw [List.getElem?_eq_getElem (by omega)]; rfl
    rw [List.take_add_one, hx, Option.toList_some, List.foldl_append, ← ih (by omega)]
    simp only [List.foldl_cons, List.foldl_nil]
    rw [sortN_succ]
    unfold stepA
    by_cases h : (attN l k).kind = 1
    · rw [if_pos h, if_pos h]
      unfold insN insA
      rw [List.map_append, List.map_cons, List.map_take, List.map_drop, List.length_map]
    · rw [if_neg h, if_neg h]
theorem sortN_lt (l : List Att) : ∀ k, ∀ j ∈ sortN l k, j < k := by
  intro k
  induction k with
  | zero => intro j hj; cases hj
  | succ k ih =>
    intro j hj
    rw [sortN_succ] at hj
    split at hj
    · unfold insN at hj
      rcases List.mem_append.1 hj with h | h
      · have := ih j (List.mem_of_mem_take h); omega
      · rcases List.mem_cons.1 h with rfl | h
        · omega
        · have := ih j (List.mem_of_mem_drop h); omega
    · have := ih j hj; omega
theorem sortN_len (l : List Att) : ∀ k, (sortN l k).length ≤ k := by
  intro k
  induction k with
  | zero => exact Nat.le_refl _
  | succ k ih =>
    rw [sortN_succ]
    split
    · unfold insN
      rw [List.length_append, List.length_cons, List.length_take, List.length_drop]
      omega
    · omega
/-- all of them -/
def sortI (l : List Att) : List Nat := sortN l l.length
theorem sortI_map (l : List Att) : (sortI l).map (attN l) = sortA l := by
  unfold sortI sortA
  rw [sortN_map l _ (Nat.le_refl _), List.take_length]

theorem posTo_some {a b : Att} {sa : List Att} {k : Nat} (h : sa[k]? = some b) : posTo a sa (k + 1) = if ahead a b = true then posTo a sa k else k + 1 := by
  show (match sa[k]? with | some b => if ahead a b = true then posTo a sa k else k + 1 | none => k + 1) = _
  rw [h]

/-! ### a list of numbers that is shifted -/
def zs (l : List Nat) : List Int := l.map (fun j : Nat => (j : Int))
def sh (out : List Nat) (c : Nat) : List Nat := (out ++ [0]).take (c + 1) ++ out.drop c
theorem sh_len (out : List Nat) {c : Nat} (h : c ≤ out.length) : (sh out c).length = out.length + 1 := by
  unfold sh
  rw [List.length_append, List.length_take, List.length_append, List.length_drop, List.length_singleton]
  omega
theorem sh_start (out : List Nat) : sh out out.length = out ++ [0] := by
  unfold sh
  rw [List.take_of_length_le (by simp), List.drop_length, List.append_nil]
theorem sh_at (out : List Nat) {c j : Nat} (h : c < out.length) (hj : j = c) : (sh out (c + 1))[j]? = out[c]? := by
  subst hj
  unfold sh
  rw [List.getElem?_append_left (by rw [List.length_take, List.length_append]; simp; omega), List.getElem?_take_of_lt (by omega), List.getElem?_append_left h]
theorem sh_step (out : List Nat) {c v : Nat} (h : c < out.length) (hv : out[c]? = some v) : (sh out (c + 1)).set (c + 1) v = sh out c := by
  have hl := sh_len out (c := c + 1) (by omega)
  have hl2 := sh_len out (c := c) (by omega)
  refine List.ext_getElem? fun j => ?_
  by_cases e : c + 1 = j
  · subst e
    rw [List.getElem?_set_self (by omega)]
    unfold sh
    rw [List.getElem?_append_right (by rw [List.length_take]; omega), List.length_take, List.length_append, List.length_singleton, List.getElem?_drop, ← hv]
    congr 1
    omega
  · rw [List.getElem?_set_ne e]
    unfold sh
    rcases Nat.lt_or_ge j (c + 1) with h1 | h1
    · rw [List.getElem?_append_left (by rw [List.length_take, List.length_append, List.length_singleton]; omega), List.getElem?_append_left (by rw [List.length_take, List.length_append, List.length_singleton]; omega), List.getElem?_take_of_lt (by omega), List.getElem?_take_of_lt (by omega)]
    · rw [List.getElem?_append_right (by rw [List.length_take]; omega), List.getElem?_append_right (by rw [List.length_take]; omega), List.length_take, List.length_take, List.length_append, List.length_singleton, List.getElem?_drop, List.getElem?_drop]
      congr 1
      omega
theorem sh_end (out : List Nat) {p i : Nat} (h : p ≤ out.length) : (sh out p).set p i = out.take p ++ i :: out.drop p := by
  refine List.ext_getElem? fun j => ?_
  have hl := sh_len out h
  by_cases e : p = j
  · subst e
    rw [List.getElem?_set_self (by omega), List.getElem?_append_right (by rw [List.length_take]; omega), List.length_take, Nat.min_eq_left h, Nat.sub_self]
    rfl
  · rw [List.getElem?_set_ne e]
    unfold sh
    rcases Nat.lt_or_ge j p with h1 | h1
    · rw [List.getElem?_append_left (by rw [List.length_take, List.length_append, List.length_singleton]; omega), List.getElem?_append_left (by rw [List.length_take]; omega), List.getElem?_take_of_lt (by omega), List.getElem?_take_of_lt h1, List.getElem?_append_left (by omega)]
    · rw [List.getElem?_append_right (by rw [List.length_take]; omega), List.getElem?_append_right (by rw [List.length_take]; omega), List.length_take, List.length_take, List.length_append, List.length_singleton, List.getElem?_drop, List.getElem?_cons, if_neg (by omega), List.getElem?_drop]
      congr 1
      omega

/-- a row whose elements are one cell each is written at a place -/
theorem row_set {base g n cap o sz : Nat} {e : TypeId} {cs : List Value} (h : w.ownsRow base e sz (.slice (some ⟨g, 0, none⟩) n cap) n cs) (u : Value) : (w.setCell ⟨g, o, none⟩ u).ownsRow base e sz (.slice (some ⟨g, 0, none⟩) n cap) n (cs.set o u) := by
  rcases h.2 with ⟨hv', _⟩ | ⟨g', cap', cur, hv', hb, hg, hc, hm, hs, ht⟩
  · simp at hv'
  · simp only [Value.slice.injEq, Option.some.injEq, Addr.mk.injEq, and_true, true_and] at hv'
    obtain ⟨rfl, rfl⟩ := hv'
    refine ⟨by rw [List.length_set]; exact h.1, .inr ⟨g, cap, _, rfl, hb, block_setCell u hg, hc, hm, by simpa using hs, ?_⟩⟩
    rw [Array.toList_setIfInBounds, List.take_set, ht]
theorem flat_encZ (l : List Int) : l.flatMap encZ = l.map (Value.int .i64) := by
  induction l with
  | nil => rfl
  | cons a l ih => simp [encZ, ih]
theorem zs_set (l : List Nat) (j v : Nat) : ((zs l).flatMap encZ).set j (.int .i64 (v : Int)) = (zs (l.set j v)).flatMap encZ := by
  rw [flat_encZ, flat_encZ]
  unfold zs
  rw [List.map_map, List.map_map, List.map_set]
  rfl
end Go.Proofs.Ytlphjkgjcfhihaa

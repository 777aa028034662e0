/- Package buffer: Find, All. -/
import Derived.Test.YtopdcjimpdalpaaGreatBufA
namespace Go.Proofs.YtopdcjimpdalpaaGreat
set_option linter.unusedVariables false
set_option linter.unusedSimpArgs false
open Go.RowKit

/-- the youngest store of a word -/
def findS (q : List (Int × Int)) (a : Int) : Option Int := (q.reverse.find? fun c => c.1 == a).map (·.2)

theorem findS_none {q : List (Int × Int)} {a : Int} (h : ∀ (i : Nat) (x : Int × Int), q[i]? = some x → x.1 ≠ a) : findS q a = none := by
  unfold findS
  rw [Option.map_eq_none_iff, List.find?_eq_none]
  intro x hx
  obtain ⟨i, hi⟩ := List.getElem?_of_mem (List.mem_reverse.1 hx)
  simpa using h i x hi
theorem findS_some {q : List (Int × Int)} {a : Int} {k : Nat} {x : Int × Int} (hk : q[k]? = some x) (hx : x.1 = a) (h : ∀ (i : Nat) (y : Int × Int), k < i → q[i]? = some y → y.1 ≠ a) : findS q a = some x.2 := by
  have e : q.reverse = (q.drop (k + 1)).reverse ++ x :: (q.take k).reverse := by
    obtain ⟨hlt, rfl⟩ := List.getElem?_eq_some_iff.1 hk
    have : q = q.take k ++ (q[k] :: q.drop (k + 1)) := by simp
    conv => lhs; rw [this]
    simp
  unfold findS
  rw [e, List.find?_append]
  have h1 : (q.drop (k + 1)).reverse.find? (fun c => c.1 == a) = none := by
    rw [List.find?_eq_none]
    intro y hy
    obtain ⟨i, hi⟩ := List.getElem?_of_mem (List.mem_reverse.1 hy)
    rw [List.getElem?_drop] at hi
    simpa using h _ y (by omega) hi
  rw [h1]
  simp [hx]

/-- Find's answer -/
def findV (q : List (Int × Int)) (a : Int) : Value := match findS q a with
  | some v => .tuple #[.int .i64 v, .bool true]
  | none => .tuple #[.int .i64 0, .bool false]

set_option maxHeartbeats 400000 in
theorem find_no {w : World} {p : Value} (h : NoRing w p) (a : Int) :
    Calls Tryz.prog 169 #[p, .int .i64 a] w fun e w' => e = .returned (.tuple #[.int .i64 0, .bool false]) ∧ w' = w := by
  have H := hidI h
  clear h
  go_enter Tryz.func169, Tryz.ntmps169
  go_wp2_with fail
  refine (there_no H.out).mono ?_
  rintro e w1 ⟨rfl, rfl⟩
  go_wp2
  go_ret2
  exact ⟨rfl, rfl⟩

/-- Find's post -/
def FindPost (q : List (Int × Int)) (a : Int) (w : World) (e : Ending) (w' : World) : Prop := e = .returned (findV q a) ∧ ∃ n, w' = w.drewN n

set_option maxHeartbeats 1000000 in
theorem find_yes {w : World} {b : Nat} {q : List (Int × Int)} {c : Array Value} {f : Nat} (h : Ring w b q c f) (a : Int) :
    Calls Tryz.prog 169 #[.pointer (some ⟨b, 0, none⟩), .int .i64 a] w (FindPost q a w) := by
  have c1 := cell_of_block h.blk h.many
  have h64 := h.q64
  have H := hidI h
  clear h
  go_enter Tryz.func169, Tryz.ntmps169
  go_wp2_with fail
  refine (there_yes H.out).mono ?_
  rintro e w1 ⟨rfl, rfl⟩
  go_wp2_with fail
  go_loopw [6] (fun i wr => ∃ k : Nat, k ≤ q.length ∧ i = .int .i64 ((k : Int) - 1) ∧ (∃ n, wr = w1.drewN n) ∧ ∀ j y, k ≤ j → q[j]? = some y → y.1 ≠ a) (fun i _ => (intOf i + 1).toNat)
  case atStart => exact ⟨q.length, Nat.le_refl _, rfl, ⟨0, rfl⟩, fun j y hj hy => by have := (List.getElem?_eq_some_iff.1 hy).1; omega⟩
  case round =>
    obtain ⟨k, hk, rfl, ⟨n, rfl⟩, hall⟩ := hrel
    have HA := hidI hall
    clear hall
    by_cases h0 : k = 0
    · subst h0
      go_wp2
      go_ret2
      refine ⟨?_, n, rfl⟩
      unfold findV
      rw [findS_none (fun i x hx => HA.out i x (by omega) hx)]
      rfl
    · obtain ⟨m, rfl⟩ : ∃ m, k = m + 1 := ⟨k - 1, by omega⟩
      obtain ⟨x, hx⟩ := some_at (l := q) (k := m) (by omega)
      have hc := H.out.cells m x hx
      have c2 := cell_of_block H.out.blk hc.1
      have c3 := cell_of_block H.out.blk hc.2
      have HX := hidI hx
      have e1 : (((m + 1 : Nat) : Int) - 1) = m := by omega
      rw [e1]
      clear hx hc e1 h0
      go_wp2_with fail
      refine (at_any (H.out.drewN n) m (by omega)).mono ?_
      rintro e w2 ⟨rfl, n2, rfl⟩
      by_cases ha : x.1 = a
      · have ta : ((x.1 : Int) == a) = true := by rw [ha]; simp
        go_wp2
        go_ret2
        refine ⟨?_, _, rfl⟩
        unfold findV
        rw [findS_some HX.out ha (fun i y hi hy => HA.out i y (by omega) hy)]
        rfl
      · have ta : ((x.1 : Int) == a) = false := by rw [beq_eq_false_iff_ne]; exact ha
        go_wp2
        refine ⟨⟨m, by omega, rfl, ⟨_, rfl⟩, fun j y hj hy => ?_⟩, by simp [intOf]⟩
        rcases Nat.lt_or_ge m j with h | h
        · exact HA.out j y h hy
        · obtain rfl : j = m := by omega
          have := HX.out
          rw [hy] at this
          simp only [Option.some.injEq] at this
          subst this
          exact ha

/-- All's post: a list of its own -/
def AllPost (q : List (Int × Int)) (w : World) (e : Ending) (w' : World) : Prop :=
  ∃ g, e = .returned (.slice (some ⟨g, 0, none⟩) q.length q.length) ∧ w'.ownsRow w.heap.size 99 2 (.slice (some ⟨g, 0, none⟩) q.length q.length) q.length (q.flatMap encCell) ∧ Below w.heap.size w w'

theorem Tryz.info99 : (Tryz.prog.info? 99).map (fun i => (i.zero, i.size, i.bytes)) = some (some (.agg #[.int .i64 0, .int .i64 0]), 2, 16) := by kernel_rfl

/-- the list while it is filled: k of q's stores, zeros behind -/
def filled (q : List (Int × Int)) (k : Nat) : List Value := (q.take k).flatMap encCell ++ List.replicate ((q.length - k) * 2) (.int .i64 0)

theorem made_zero (n : Nat) : (madeCells #[Value.int IntKind.i64 0, Value.int IntKind.i64 0] (n * 2)).toList = List.replicate (n * 2) (.int .i64 0) := by
  apply List.ext_getElem
  · simp [madeCells]
  · intro i h1 h2
    simp only [madeCells, Array.getElem_toList, Array.getElem_map, Array.getElem_range, List.getElem_replicate]
    show (#[Value.int IntKind.i64 0, Value.int IntKind.i64 0] : Array Value)[i % 2]! = _
    rcases Nat.mod_two_eq_zero_or_one i with h | h <;> rw [h] <;> rfl
theorem filled_zero (q : List (Int × Int)) : filled q 0 = List.replicate (q.length * 2) (.int .i64 0) := by simp [filled]
theorem filled_all (q : List (Int × Int)) : filled q q.length = q.flatMap encCell := by simp [filled]

theorem filled_split {q : List (Int × Int)} {k : Nat} {x : Int × Int} (h : q[k]? = some x) : filled q k = (q.take k).flatMap encCell ++ .int .i64 0 :: .int .i64 0 :: List.replicate ((q.length - (k + 1)) * 2) (.int .i64 0) ∧
    filled q (k + 1) = (q.take k).flatMap encCell ++ .int .i64 x.1 :: .int .i64 x.2 :: List.replicate ((q.length - (k + 1)) * 2) (.int .i64 0) ∧ ((q.take k).flatMap encCell).length = k * 2 := by
  have hk := (List.getElem?_eq_some_iff.1 h).1
  refine ⟨?_, ?_, ?_⟩
  · unfold filled
    rw [show (q.length - k) * 2 = (q.length - (k + 1)) * 2 + 1 + 1 from by omega, List.replicate_succ, List.replicate_succ]
  · unfold filled
    rw [take_snoc h, flat_snoc]
    simp [encCell]
  · rw [flat_len encCell_len, List.length_take, Nat.min_eq_left (by omega)]
theorem filled_len {q : List (Int × Int)} {k : Nat} (hk : k ≤ q.length) : (filled q k).length = q.length * 2 := by
  unfold filled
  rw [List.length_append, flat_len encCell_len, List.length_take, Nat.min_eq_left hk, List.length_replicate]
  omega

end Go.Proofs.YtopdcjimpdalpaaGreat

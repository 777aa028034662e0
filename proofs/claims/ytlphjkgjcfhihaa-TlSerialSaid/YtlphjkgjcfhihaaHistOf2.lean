/- (With the lists' apartness.) The contract of history.Of: as runH says. -/
import Derived.Test.YtlphjkgjcfhihaaHistF
namespace Go.Proofs.Ytlphjkgjcfhihaa
set_option linter.unusedVariables false
set_option linter.unusedSimpArgs false
open Go.RowKit

theorem run_stop {evs : List Ev} {k : Nat} {s0 s : HS} {x : Ev} (h : runH (evs.take k) 0 s0 = .inl s) (hx : evs[k]? = some x) (hs : stepH s x k = none) : runH evs 0 s0 = .inr k := by
  obtain ⟨hk, rfl⟩ := List.getElem?_eq_some_iff.1 hx
  have e : evs = evs.take k ++ (evs[k] :: evs.drop (k + 1)) := by simp
  rw [e, runH_append, h]
  simp only [runH, List.length_take, Nat.zero_add]
  rw [show min k evs.length = k from by omega, hs]

theorem run_next {evs : List Ev} {k : Nat} {s0 s s' : HS} {x : Ev} (h : runH (evs.take k) 0 s0 = .inl s) (hx : evs[k]? = some x) (hs : stepH s x k = some s') : runH (evs.take (k + 1)) 0 s0 = .inl s' := by
  have hk := (List.getElem?_eq_some_iff.1 hx).1
  rw [take_snoc hx, runH_append, h]
  simp only [runH, List.length_take, Nat.zero_add]
  rw [show min k evs.length = k from by omega, hs]

def enc2 (p : Att × Value) : List Value := encAtt p.1 p.2
theorem enc2_len : ∀ p, (enc2 p).length = 8 := fun _ => rfl

/-- the answer: a list of the attempts, each with its events in a row of its own, all in new memory -/
def OfYes (l : List Att) (w : World) (e : Ending) (w' : World) : Prop :=
  ∃ (ao : Option Addr) (cp : Nat) (ps : List (Att × Value)), ps.map Prod.fst = l ∧ e = .returned (.tuple #[.slice ao ps.length cp, .int .i64 0, .int .i64 0]) ∧ w'.ownsRow w.heap.size 73 8 (.slice ao ps.length cp) ps.length (ps.flatMap enc2) ∧
    (∀ p ∈ ps, w'.ownsRow w.heap.size 57 4 p.2 p.1.done.length (p.1.done.flatMap encEv)) ∧
    (∀ (i j g : Nat) p q, i ≠ j → ps[i]? = some p → ps[j]? = some q → p.2.ownBlock = some g → q.2.ownBlock ≠ some g) ∧ (∀ p ∈ ps, ∀ g, p.2.ownBlock = some g → (Value.slice ao ps.length cp).ownBlock ≠ some g) ∧ Below w.heap.size w w'
def OfPost (evs : List Ev) (w : World) (e : Ending) (w' : World) : Prop :=
  match runH evs 0 HS.init with
  | .inl s => OfYes s.atts w e w'
  | .inr k => e = .returned (.tuple #[.slice none 0 0, .int .i64 (k : Int), .int .i64 15]) ∧ Below w.heap.size w w'

theorem OfPost.no {evs : List Ev} {k : Nat} {w w' : World} (h : runH evs 0 HS.init = .inr k) (hb : Below w.heap.size w w') : OfPost evs w (.returned (.tuple #[.slice none 0 0, .int .i64 (k : Int), .int .i64 15])) w' := by
  unfold OfPost
  rw [h]
  exact ⟨rfl, hb⟩

theorem attInfo : (Try.prog.info? 73).map (fun i => (i.zero, i.size, i.bytes)) = some (some (.agg #[.int .i64 0, .int .u8 0, .int .i64 0, .int .i64 0, .int .i64 0, .int .i64 0, .bool false, .slice none 0 0]), 8, 80) := by kernel_rfl

theorem one_slice {w : World} {base : Nat} {e : TypeId} {size : Nat} (v : Value) {n : Nat} {xs : List Value} (h : w.ownsRow base e size v n xs) : v.oneCell' = true := by
  obtain ⟨ao, c, rfl⟩ := ownsRow_shape h
  rfl

theorem stop_range {s : HS} {x : Ev} {i : Nat} (h : x.th < 0 ∨ 4 ≤ x.th) : stepH s x i = none := by unfold stepH; rw [if_pos h]

end Go.Proofs.Ytlphjkgjcfhihaa

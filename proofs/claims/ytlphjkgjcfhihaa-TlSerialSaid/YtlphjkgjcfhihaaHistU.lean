/- What Of and Locals answer, in one form for the package's and the document's. -/
import Derived.Test.YtlphjkgjcfhihaaHistG2
import Derived.Test.YtlphjkgjcfhihaaNums
namespace Go.Proofs.Ytlphjkgjcfhihaa
open Go.RowKit
set_option linter.unusedVariables false
set_option linter.unusedSimpArgs false

def ofL (evs : List Ev) : List Att := match runH evs 0 HS.init with | .inl s => s.atts | .inr _ => []
def ofAt (evs : List Ev) : Int := match runH evs 0 HS.init with | .inl _ => 0 | .inr k => k
def ofErr (evs : List Ev) : Int := match runH evs 0 HS.init with | .inl _ => 0 | .inr _ => 15

/-- a list of attempts in memory of its own, the events of each too -/
structure Owned (w : World) (base : Nat) (v : Value) (ps : List (Att × Value)) : Prop where
  row : w.ownsRow base 73 8 v ps.length (ps.flatMap enc2)
  own : ∀ (j : Nat) p, ps[j]? = some p → w.ownsRow base 57 4 p.2 p.1.done.length (p.1.done.flatMap encEv)
  ne : ∀ (j g : Nat) p, ps[j]? = some p → p.2.ownBlock = some g → v.ownBlock ≠ some g
  lg : ∀ (i j g : Nat) p q, i ≠ j → ps[i]? = some p → ps[j]? = some q → p.2.ownBlock = some g → q.2.ownBlock ≠ some g
theorem Owned.nil (w : World) (base : Nat) : Owned w base (.slice none 0 0) [] := ⟨World.ownsRow_nil _ _ _ _, fun j p h => by simp at h, fun j g p h => by simp at h, fun i j g p q _ h => by simp at h⟩
theorem Owned.keep {w w' : World} {base : Nat} {v : Value} {ps : List (Att × Value)} (h : Owned w base v ps) (hb : Below w.heap.size w w') : Owned w' base v ps :=
  ⟨ownsRow_chg h.row (Chg.of_below (S := fun _ => False) hb) (fun _ _ => id), fun j p hp => ownsRow_chg (h.own j p hp) (Chg.of_below (S := fun _ => False) hb) (fun _ _ => id), h.ne, h.lg⟩
theorem Owned.mono {w : World} {base base' : Nat} {v : Value} {ps : List (Att × Value)} (h : Owned w base v ps) (hb : base' ≤ base) : Owned w base' v ps :=
  ⟨ownsRow_mono h.row hb, fun j p hp => ownsRow_mono (h.own j p hp) hb, h.ne, h.lg⟩

/-- what Of answers -/
def OfU (evs : List Ev) (w : World) (e : Ending) (w' : World) : Prop :=
  ∃ (ao : Option Addr) (cp : Nat) (ps : List (Att × Value)), ps.map Prod.fst = ofL evs ∧ e = .returned (.tuple #[.slice ao ps.length cp, .int .i64 (ofAt evs), .int .i64 (ofErr evs)]) ∧ Owned w' w.heap.size (.slice ao ps.length cp) ps ∧ Below w.heap.size w w'
theorem OfU.of {evs : List Ev} {w : World} {e : Ending} {w' : World} (h : OfPost evs w e w') : OfU evs w e w' := by
  unfold OfPost at h
  unfold OfU ofL ofAt ofErr
  cases hr : runH evs 0 HS.init with
  | inl s =>
    rw [hr] at h
    obtain ⟨ao, cp, ps, h1, rfl, h2, h3, h4, h5, h6⟩ := h
    exact ⟨ao, cp, ps, h1, rfl, ⟨h2, fun j p hp => h3 p (List.mem_of_getElem? hp), fun j g p hp hg => h5 p (List.mem_of_getElem? hp) g hg, h4⟩, h6⟩
  | inr k =>
    rw [hr] at h
    obtain ⟨rfl, h6⟩ := h
    exact ⟨none, 0, [], rfl, rfl, Owned.nil _ _, h6⟩

/-- the events that one tells or does outside of attempts -/
def locFrom : List Ev → Nat → Int → List Int
  | [], _, _ => []
  | x :: l, i, t => if x.th = t ∧ (x.k = 7 ∨ x.k = 9 ∨ x.k = 10 ∨ x.k = 11) then (i : Int) :: locFrom l (i + 1) t else locFrom l (i + 1) t
theorem locFrom_snoc (l : List Ev) (x : Ev) (t : Int) : ∀ i, locFrom (l ++ [x]) i t = locFrom l i t ++ (if x.th = t ∧ (x.k = 7 ∨ x.k = 9 ∨ x.k = 10 ∨ x.k = 11) then [((i + l.length : Nat) : Int)] else []) := by
  induction l with
  | nil => intro i; simp only [List.nil_append, locFrom]; split <;> rfl
  | cons y l ih =>
    intro i
    simp only [List.cons_append, locFrom, ih, List.length_cons]
    rw [show i + 1 + l.length = i + (l.length + 1) from by omega]
    split <;> simp
theorem locFrom_len (l : List Ev) (t : Int) : ∀ i, (locFrom l i t).length ≤ l.length := by
  induction l with
  | nil => intro i; simp [locFrom]
  | cons y l ih =>
    intro i
    have := ih (i + 1)
    simp only [locFrom]
    split
    · simp; omega
    · simp; omega
def locErr (evs : List Ev) (t : Int) : Int := if t < 0 ∨ 4 ≤ t then 1 else ofErr evs
def locV (evs : List Ev) (t : Int) : List Int := if locErr evs t = 0 then locFrom evs 0 t else []
theorem locV_len (evs : List Ev) (t : Int) : (locV evs t).length ≤ evs.length := by
  unfold locV
  split
  · exact locFrom_len _ _ _
  · simp
/-- what Locals answers -/
def LocU (evs : List Ev) (t : Int) (w : World) (e : Ending) (w' : World) : Prop :=
  ∃ (ao : Option Addr) (cp : Nat), e = .returned (.tuple #[.slice ao (locV evs t).length cp, .int .i64 (locErr evs t)]) ∧ w'.ownsRow w.heap.size 3 1 (.slice ao (locV evs t).length cp) (locV evs t).length ((locV evs t).flatMap encZ) ∧ Below w.heap.size w w'
theorem LocU.no {evs : List Ev} {t n : Int} {w w' : World} (hn : locErr evs t = n) (h0 : n ≠ 0) (hb : Below w.heap.size w w') : LocU evs t w (.returned (.tuple #[.slice none 0 0, .int .i64 n])) w' := by
  have e1 : locV evs t = [] := if_neg (by rw [hn]; exact h0)
  unfold LocU
  rw [e1, hn]
  exact ⟨none, 0, rfl, World.ownsRow_nil _ _ _ _, hb⟩
end Go.Proofs.Ytlphjkgjcfhihaa

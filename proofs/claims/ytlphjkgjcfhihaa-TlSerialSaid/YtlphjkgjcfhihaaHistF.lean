/- The contract of (*thread).take on a state of history.Of that lies in memory: as stepH says. -/
import Derived.Test.YtlphjkgjcfhihaaHistE
import Derived.Test.YtlphjkgjcfhihaaHistLaw
namespace Go.Proofs.Ytlphjkgjcfhihaa
set_option linter.unusedVariables false
set_option linter.unusedSimpArgs false
open Go.RowKit

theorem done_le {s : HS} {j n : Nat} {a : Att} (h : s.atts[j]? = some a) (ht : total s.atts ≤ n) : a.done.length ≤ n := by
  refine Nat.le_trans ?_ ht
  have key : ∀ (l : List Att) (j : Nat), l[j]? = some a → a.done.length ≤ total l := by
    intro l
    induction l with
    | nil => intro j h; simp at h
    | cons b l ih =>
      intro j h
      cases j with
      | zero =>
        simp only [List.getElem?_cons_zero, Option.some.injEq] at h
        subst h
        simp [total]
      | succ j =>
        simp only [List.getElem?_cons_succ] at h
        have := ih j h
        simp only [total, List.map_cons, List.sum_cons] at this ⊢
        omega
  exact key _ _ h

theorem total_le (l : List Ev) {s : HS} (h : runH l 0 HS.init = .inl s) : total s.atts ≤ l.length := by
  rw [total_run l HOk.init h]
  have := List.length_filter_le isIn l
  simp [HS.init, total]
  exact this

theorem atts_step {s s' : HS} {x : Ev} {i : Nat} (hs : stepH s x i = some s') : s'.atts.length ≤ s.atts.length + 1 := by
  unfold stepH at hs
  split at hs
  · cases hs
  · split at hs
    · cases hs
    · split at hs
      · split at hs
        · cases hs; simp
        · split at hs
          · cases hs; simp
          · split at hs
            · cases hs; simp
            · cases hs
      · split at hs
        · cases hs; simp
        · split at hs
          · cases hs; simp
          · split at hs
            · cases hs; simp
            · split at hs
              · cases hs; simp
              · cases hs

theorem atts_run (l : List Ev) : ∀ {s s' : HS} {i : Nat}, runH l i s = .inl s' → s'.atts.length ≤ s.atts.length + l.length := by
  induction l with
  | nil => intro s s' i hr; simp only [runH, Sum.inl.injEq] at hr; subst hr; simp
  | cons x l ih =>
    intro s s' i hr
    simp only [runH] at hr
    cases hs : stepH s x i with
    | none => rw [hs] at hr; cases hr
    | some t =>
      rw [hs] at hr
      have h1 := ih hr
      have h2 := atts_step hs
      simp
      omega

theorem upd_ended {s : HS} {t : Nat} {b : Bool} (h : s.ended t = b) : upd s.ended t b = s.ended := by
  funext j
  simp only [upd]
  split
  · rename_i e; subst e; exact h.symm
  · rfl

end Go.Proofs.Ytlphjkgjcfhihaa

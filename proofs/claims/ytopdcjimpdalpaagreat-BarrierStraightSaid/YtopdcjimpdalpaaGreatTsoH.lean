/- Package tso: Step, whole. -/
import Derived.Test.YtopdcjimpdalpaaGreatTsoG3
import Derived.Test.YtopdcjimpdalpaaGreatTsoG4
import Derived.Test.YtopdcjimpdalpaaGreatTsoG5
import Derived.Test.YtopdcjimpdalpaaGreatTsoK
namespace Go.Proofs.YtopdcjimpdalpaaGreat
open Go.RowKit
set_option linter.unusedVariables false
set_option linter.unusedSimpArgs false

variable {w w' : World} {base b : Nat} {own own' : Nat → Nat} {mm : MM} {xs : List TX} {mv tv ev : Value}

/-- Step -/
theorem step_any {N : Nat} (h : MAt w base b own mm xs mv tv ev) (hk : MOk N mm) (hN : N < 1000000000) (z : Int) :
    Calls Tryz.prog 63 #[.pointer (some ⟨b, 0, none⟩), .int .i64 z] w fun r w' => r = .returned (.bool (mm.step z).1) ∧ MGoes w base b own (mm.step z).2 w' := by
  cases ht : mm.thr z with
  | none =>
    refine (step_none h (thr_none h ht)).mono ?_
    rintro r w' ⟨rfl, hb⟩
    have e : mm.step z = (false, mm) := by unfold MM.step; rw [ht]
    rw [e]
    exact ⟨rfl, MGoes.same h hb⟩
  | some t =>
    obtain ⟨n, x, rfl, hx, rfl⟩ := thr_some h ht
    obtain ⟨tb, cap, rfl, -⟩ := h.tslice hx
    have hm := List.mem_of_getElem? (h.th_at hx)
    have hth := hk.th _ hm
    by_cases hf : x.th.fin = 0
    · have e : mm.step (n : Int) = mm.go n x.th := by unfold MM.step; rw [ht]; simp [hf]
      rw [e]
      have hev : mm.evs.length < 1000000000 := Nat.lt_of_le_of_lt hk.evs hN
      have h4 : xs.length ≤ 4 := by rw [← ths_len h.same]; exact hk.four
      by_cases hat : x.th.at_ < 0 ∨ x.th.code.length ≤ x.th.at_
      · exact step_far h hx hf hat hev h4
      · have hat0 := hth.at_
        have hlt : x.th.at_.toNat < x.th.code.length := by omega
        have ho := List.getElem?_eq_getElem hlt
        have hok := hth.ops _ (List.getElem_mem hlt)
        have hol := Nat.lt_of_le_of_lt hth.out hN
        generalize x.th.code[x.th.at_.toNat] = o at ho hok
        by_cases hmo : ∃ a, x.th.word o = some a ∧ mm.has a = false
        · exact step_bad h hx hk.mem.2 hf hth.at_ ho hok hol hmo hev h4
        · cases hwt : x.th.waits o with
          | true => exact step_waits h hx hk.mem.2 hf hth.at_ ho hok hol hmo hwt hev h4
          | false =>
            cases hst : x.th.stops o with
            | none => exact step_live h hx hk.mem.2 hf hth.at_ ho hok hol hmo hwt hst hev h4
            | some k => exact step_dies h hx hk.mem.2 hf hth.at_ ho hok hol hmo hwt ⟨k, hst⟩ hev h4
    · have e : mm.step (n : Int) = (false, mm) := by unfold MM.step; rw [ht]; simp [hf]
      rw [e]
      refine (step_fin h hx hf).mono ?_
      rintro r w' ⟨rfl, hb⟩
      exact ⟨rfl, MGoes.same h hb⟩
end Go.Proofs.YtopdcjimpdalpaaGreat

/- Package tso: the code that a machine's threads hold stays. -/
import Derived.Test.YtnechkhgceeejaaTsoAa
namespace Go.Proofs.Ytnechkhgceeejaa
set_option linter.unusedVariables false
set_option linter.unusedSimpArgs false

theorem set_code {l : List MT} {n : Nat} {t t' : MT} (h : l[n]? = some t) (hc : t'.code = t.code) : (l.set n t').map (·.code) = l.map (·.code) := by
  rw [List.map_set]
  apply List.ext_getElem?
  intro i
  by_cases e : n = i
  · subst e
    have hl := (List.getElem?_eq_some_iff.1 h).1
    rw [List.getElem?_set_self (by simpa using hl), List.getElem?_map, h]
    simp [hc]
  · rw [List.getElem?_set_ne e]
def MM.codes (m : MM) : List (List OpD) := m.ths.map (·.code)
theorem step_codes (m : MM) (z : Int) : (m.step z).2.codes = m.codes := by
  refine step_cases m z (fun q => q.2.codes = m.codes) rfl (fun t ht _ => ?_) (fun t o a ht _ _ _ => ?_)
  · have h0 := (thr_mem ht).2
    exact set_code (t' := { t with fin := 8 }) h0 rfl
  · have h0 := (thr_mem ht).2
    have hp : ∀ (m' : MM) (t' : MT), m'.ths = m.ths → t'.code = t.code → (m'.put z.toNat t').codes = m.codes := fun m' t' e hc => by
      simp only [MM.codes, MM.put, e]
      exact set_code h0 hc
    exact act_cases m z.toNat t o a (fun q => q.codes = m.codes) (fun i v => hp m _ rfl rfl) (fun k => hp m _ rfl rfl) (fun _ => hp m _ rfl rfl) (fun _ => hp m _ rfl rfl) (hp m _ rfl rfl)
      (fun l i v hl _ => hp _ _ rfl rfl) (hp m _ rfl rfl) (fun k x y => hp m _ rfl rfl) (fun i v => hp m _ rfl rfl) rfl
theorem flush_codes (m : MM) (z : Int) : (m.flush z).2.codes = m.codes := by
  unfold MM.flush
  split
  · rfl
  · rename_i t ht
    have h0 := (thr_mem ht).2
    split
    · rfl
    · exact set_code h0 rfl
theorem does_codes (m : MM) (a : ActD) : (m.does a).codes = m.codes := by
  unfold MM.does
  split
  · exact flush_codes m _
  · exact step_codes m _
theorem doAll_codes (l : List ActD) : ∀ m : MM, (m.doAll l).codes = m.codes := by
  induction l with
  | nil => exact fun m => rfl
  | cons a r ih => exact fun m => (ih (m.does a)).trans (does_codes m a)
end Go.Proofs.Ytnechkhgceeejaa

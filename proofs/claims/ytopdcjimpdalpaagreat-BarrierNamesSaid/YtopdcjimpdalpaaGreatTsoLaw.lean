/- Package tso, plain: what a step leaves alone; what was told stays told. -/
import Derived.Test.YtopdcjimpdalpaaGreatTsoInv
namespace Go.Proofs.YtopdcjimpdalpaaGreat
open Go.RowKit
set_option linter.unusedVariables false
set_option linter.unusedSimpArgs false

/-- what a step does is an act, a stop, or nothing -/
theorem step_cases (m : MM) (z : Int) (P : Bool × MM → Prop) (h0 : P (false, m)) (h1 : ∀ t, m.thr z = some t → t.fin = 0 → P (true, m.stop z.toNat t 8))
    (h2 : ∀ t o a, m.thr z = some t → t.fin = 0 → 0 ≤ t.at_ → t.code[t.at_.toNat]? = some o → P (true, m.act z.toNat t o a)) : P (m.step z) := by
  unfold MM.step
  split
  · exact h0
  · rename_i t ht
    split
    · exact h0
    · rename_i hf
      have hf' : t.fin = 0 := by simpa using hf
      unfold MM.go
      split
      · exact h1 t ht hf'
      · rename_i o ho
        have h3 : 0 ≤ t.at_ ∧ t.code[t.at_.toNat]? = some o := by
          split at ho
          · cases ho
          · exact ⟨by omega, ho⟩
        split
        · split
          · exact h0
          · exact h2 t o 0 ht hf' h3.1 h3.2
        · split
          · split
            · exact h0
            · exact h2 t o _ ht hf' h3.1 h3.2
          · exact h1 t ht hf'
/-- no other thread is changed -/
theorem step_other (m : MM) (z : Int) {i : Nat} (hi : (i : Int) ≠ z) : (m.step z).2.ths[i]? = m.ths[i]? := by
  refine step_cases m z (fun q => q.2.ths[i]? = m.ths[i]?) rfl (fun t ht _ => ?_) (fun t o a ht _ _ _ => ?_)
  · have h0 := (thr_mem ht).1
    have hne : z.toNat ≠ i := by omega
    simp [MM.stop, MM.tell, MM.put, List.getElem?_set_ne hne]
  · have h0 := (thr_mem ht).1
    have hne : z.toNat ≠ i := by omega
    have hs : ∀ t' k, (m.stop z.toNat t' k).ths[i]? = m.ths[i]? := fun t' k => by simp [MM.stop, MM.tell, MM.put, List.getElem?_set_ne hne]
    exact act_cases m z.toNat t o a (fun q => q.ths[i]? = m.ths[i]?) (fun i v => by simp [MM.put, List.getElem?_set_ne hne]) (fun k => hs _ _) (fun _ => by simp [MM.put, List.getElem?_set_ne hne]) (fun _ => by simp [MM.put, List.getElem?_set_ne hne]) (by simp [MM.put, List.getElem?_set_ne hne])
      (fun l i v hl _ => by simp [MM.put, List.getElem?_set_ne hne]) (by simp [MM.put, MM.tell, List.getElem?_set_ne hne]) (fun k x y => by simp [MM.put, MM.tell, List.getElem?_set_ne hne]) (fun i v => by simp [MM.put, MM.tell, List.getElem?_set_ne hne]) rfl
/-- memory is changed by OpCas and OpXadd alone -/
theorem step_memory (m : MM) (z : Int) (h : ∀ t o, m.thr z = some t → 0 ≤ t.at_ → t.code[t.at_.toNat]? = some o → o.kind ≠ 8 ∧ o.kind ≠ 9) : (m.step z).2.mem = m.mem := by
  refine step_cases m z (fun q => q.2.mem = m.mem) rfl (fun t _ _ => by simp [MM.stop, MM.tell, MM.put]) (fun t o a ht _ h0 ho => ?_)
  have hk := h t o ht h0 ho
  exact act_cases m z.toNat t o a (fun q => q.mem = m.mem) (fun i v => by simp [MM.put]) (fun k => by simp [MM.stop, MM.tell, MM.put]) (fun _ => by simp [MM.put]) (fun _ => by simp [MM.put]) (by simp [MM.put])
    (fun l i v hl hk' => by omega) (by simp [MM.put, MM.tell]) (fun k x y => by simp [MM.put, MM.tell]) (fun i v => by simp [MM.put, MM.tell]) rfl
/-- a step that is none changes nothing -/
theorem step_false (m : MM) (z : Int) (h : (m.step z).1 = false) : (m.step z).2 = m := by
  revert h
  exact step_cases m z (fun q => q.1 = false → q.2 = m) (fun _ => rfl) (fun t _ _ h => by cases h) (fun t o a _ _ _ _ h => by cases h)
/-- what was told stays told -/
theorem step_events (m : MM) (z : Int) : m.evs <+: (m.step z).2.evs := by
  have hs : ∀ n t k, m.evs <+: (m.stop n t k).evs := fun n t k => by simp [MM.stop, MM.tell, MM.put]
  refine step_cases m z (fun q => m.evs <+: q.2.evs) (List.prefix_refl _) (fun t _ _ => hs _ _ _) (fun t o a _ _ _ _ => ?_)
  exact act_cases m z.toNat t o a (fun q => m.evs <+: q.evs) (fun i v => by simp [MM.put]) (fun k => hs _ _ _) (fun _ => by simp [MM.put]) (fun _ => by simp [MM.put]) (by simp [MM.put])
    (fun l i v hl _ => by simp [MM.put]) (by simp [MM.put, MM.tell]) (fun k x y => by simp [MM.put, MM.tell]) (fun i v => by simp [MM.put, MM.tell]) (List.prefix_refl _)
end Go.Proofs.YtopdcjimpdalpaaGreat

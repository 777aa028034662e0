/- TlSerial, plain: what the checks ask of the attempts that Of answers. -/
import Derived.Test.YtlphjkgjcfhihaaSerN
import Derived.Test.YtlphjkgjcfhihaaHistLaw
namespace Go.Proofs.Ytlphjkgjcfhihaa
open Go.RowKit
set_option linter.unusedVariables false
set_option linter.unusedSimpArgs false

variable {evs : List Ev} {s : HS} {cw : List Att} {W : Int} {m : Nat} {ps : List (Att × Value)}

theorem SerH.asum_le (h : SerH evs s cw W m) : asum s.atts ≤ evs.length := by
  have h1 := total_run evs HOk.init h.hist
  have h2 : total s.atts = asum s.atts := rfl
  have h3 : total HS.init.atts = 0 := rfl
  have h4 := List.length_filter_le isIn evs
  omega
theorem SerH.fine (h : SerH evs s cw W m) (hm : m ≤ 65537) (hl : evs.length ≤ 65536) : ∀ a ∈ s.atts, AttFine a := fun a ha => by
  have ok := h.att a ha
  obtain ⟨j, hj⟩ := List.getElem?_of_mem ha
  obtain ⟨a1, a2, a3, a4, a5, a6⟩ := h.hok.att j a hj
  have hs : a.done.length ≤ evs.length := by
    obtain ⟨l1, l2, e⟩ := List.append_of_mem ha
    have := h.asum_le
    rw [e, asum_app, asum_cons] at this
    omega
  refine ⟨⟨a1, a2⟩, ?_, a3, ok.clock0, ok.plain, fun e he => ?_, by omega⟩
  · rcases a6 with ⟨q1, q2, -⟩ | ⟨q1, q2, q3⟩
    · exact .inl ⟨q2, q1⟩
    · refine .inr ⟨?_, q1⟩
      rcases ok.kind with e | e | e
      · exact absurd e q3
      · exact .inl e
      · exact .inr e
  · obtain ⟨e1, e2, e3⟩ := ok.evs e he
    exact ⟨a5 e he, by omega, by omega, e1⟩
/-- all of it, of a list as it lies -/
structure GotOk (ps : List (Att × Value)) : Prop where
  fine : ∀ p ∈ ps, AttFine p.1
  inc : ∀ (j : Nat) a b, ps[j]? = some a → ps[j + 1]? = some b → a.1.beg < b.1.beg
  len : ps.length ≤ 131072
  sum : dsum ps ≤ 131072
  ser : OkSer (ps.map Prod.fst)
  snap : OkSnap (ps.map Prod.fst)
theorem SerH.got (h : SerH evs s cw W m) (hm : m ≤ 65537) (hl : evs.length ≤ 65536) (he : ps.map Prod.fst = s.atts) : GotOk ps := by
  have hmem : ∀ p ∈ ps, p.1 ∈ s.atts := fun p hp => by rw [← he]; exact List.mem_map_of_mem hp
  have hat : ∀ (j : Nat) p, ps[j]? = some p → s.atts[j]? = some p.1 := fun j p hp => by rw [← he, List.getElem?_map, hp]; rfl
  have hlen : ps.length = s.atts.length := by rw [← he, List.length_map]
  have hd : dsum ps = asum s.atts := by rw [← he]; unfold asum dsum; rw [List.map_map]; rfl
  have h1 := h.asum_le
  have h2 := h.few
  refine ⟨fun p hp => h.fine hm hl _ (hmem p hp), fun j a b ha hb => (h.hok.order j (j + 1) _ _ (by omega) (hat j a ha) (hat (j + 1) b hb)).1, by omega, by omega, ?_, ?_⟩
  · rw [he]; exact h.okSer (by omega)
  · rw [he]; exact h.okSnap
/-- the attempts that Of answers, of what Run tells -/
theorem ser_ofL {w : TW} (h : Ser w m) : ∃ s cw, SerH w.evs s cw w.clock m ∧ SerT w s cw m ∧ ofL w.evs = s.atts ∧ ofErr w.evs = 0 := by
  obtain ⟨s, cw, h1, h2⟩ := h
  exact ⟨s, cw, h1, h2, by unfold ofL; rw [h1.hist], by unfold ofErr; rw [h1.hist]⟩
end Go.Proofs.Ytlphjkgjcfhihaa

/- Package tso: slices.Clone of threads. (Written by mktsoq2.py.) -/
import Derived.Test.YthmmbldhbdnfpaaGreatDoorMTsoN
namespace Go.Proofs.YthmmbldhbdnfpaaGreatDoor
open Go.RowKit
set_option linter.unusedVariables false
set_option linter.unusedSimpArgs false

variable {w w' : World}

theorem one_encX (x : TX) (hc : x.cv.oneCell' = true) (ho : x.ov.oneCell' = true) : ∀ u ∈ encX x, u.oneCell' = true := by
  intro u hu
  simp [encX] at hu
  rcases hu with rfl | rfl | rfl | rfl | rfl | rfl | rfl | rfl | rfl | rfl | rfl | rfl | rfl <;> first | rfl | assumption

set_option maxRecDepth 100000 in
set_option maxHeartbeats 1000000 in
theorem cloneThs_any {ao : Option Addr} {cap : Nat} {l : List TX} (h : RdT encX w 13 (.slice ao l.length cap) l) (h1 : ∀ x ∈ l, x.cv.oneCell' = true ∧ x.ov.oneCell' = true) (hl : l.length ≤ 1000000000) :
    Calls Tryz.prog 61 #[.slice ao l.length cap] w (CloneRow 112 13 encX l w) := by
  have H := hidI h
  have HL := hidI hl
  have H1 := hidI h1
  have hq := fun w a l c => eqlNilT Tryz.underlying101 w a l c
  clear h hl h1
  cases ao with
  | none =>
    go_enter Tryz.func61, Tryz.ntmps61
    go_wp2_with fail
    go_ret
    obtain ⟨h1, ao, cap', h2, h3, h4⟩ := H.out
    have hn : l.length = 0 := by
      rcases Nat.eq_zero_or_pos l.length with e | e
      · exact e
      · obtain ⟨b, off, e1, -⟩ := h4 e
        simp [e1] at h2
    rw [List.length_eq_zero_iff.1 hn]
    exact ⟨_, rfl, World.ownsRow_nil _ _ _ _, Below.refl _ _⟩
  | some ad =>
    obtain ⟨i0, hi, hz0, hz1, hz2⟩ := info_parts thInfo2
    go_enter Tryz.func61, Tryz.ntmps61
    go_wp2_with (at_builtin; refine wpList_append_d _ rfl _ _ 101 rfl w.heap.size 112 i0 _ 13 136 Tryz.underlying101 hi hz0 hz1 hz2 rfl (by decide) (.slice (some ⟨w.heap.size, 0, none⟩) 0 0) 0 [] rfl ⟨by simp, .inr ⟨w.heap.size, 0, #[], rfl, Nat.le_refl _, heap_alloc_new _ _, Nat.le_refl _, Nat.zero_le _, by simp, by simp⟩⟩ ad l.length cap (l.flatMap encX) rfl (flat_len encX_len l) (read_at H.out _) (fun u hu => by obtain ⟨x, hx, hu⟩ := List.mem_flatMap.1 hu; exact one_encX x (H1.out x hx).1 (H1.out x hx).2 u hu) (by have := HL.out; unfold maxLen; omega) (by have := HL.out; omega) (by simp) ?_)
    intro ao' cp w1 hown hfrom hgrown
    have HO := hidI hown
    have HB := hidI (((Below.refl w.heap.size w).alloc (Nat.le_refl _) _).grown hgrown (by simp) (fun k hk => by simp only [Value.ownBlock, Option.some.injEq] at hk; omega))
    clear hown hfrom hgrown hi hz0 hz1 hz2 hq
    go_wp2_with fail
    go_ret
    exact ⟨_, rfl, HO.out, HB.out⟩
end Go.Proofs.YthmmbldhbdnfpaaGreatDoor

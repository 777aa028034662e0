/- What Make's fold says, exactly. No program in sight. -/
import Derived.Test.YtilkpmjkiohfdaaGreatDoorPlanMake
namespace Go.Proofs.YtilkpmjkiohfdaaGreatDoor
open Go.RowKit

theorem tk_exact {n : Int} {s : Int × Bool} (h : (tk n s).2 = false) : tk n s = (s.1 + n, false) ∧ s.2 = false ∧ s.1 + n ≤ 262144 := by
  unfold tk at h ⊢
  split at h
  · simp at h
  · rename_i hn
    rw [if_neg hn]
    simp only at h
    exact ⟨by rw [h], h, by omega⟩
theorem adv_exact {n : Int} {s : Int × Bool} (h : (adv n s).2 = false) : s.2 = false ∧ adv n s = (s.1 + n + 128 + 64 + 4096, false) ∧ s.1 + n + 128 + 64 + 4096 ≤ 262144 ∧
    row4 n s = [.int .i64 s.1, .int .i64 (s.1 + n), .int .i64 (s.1 + n + 128), .int .i64 (s.1 + n + 128 + 64), .int .i64 (s.1 + n + 128 + 64 + 4096)] := by
  obtain ⟨h1, h2, h3⟩ := tk_exact h
  obtain ⟨h4, h5, h6⟩ := tk_exact h2
  obtain ⟨h7, h8, h9⟩ := tk_exact h5
  obtain ⟨h10, h11, h12⟩ := tk_exact h8
  have e1 : (tk n s).1 = s.1 + n := by rw [h10]
  have e2 : (tk 128 (tk n s)).1 = s.1 + n + 128 := by rw [h7, e1]
  have e3 : (tk 64 (tk 128 (tk n s))).1 = s.1 + n + 128 + 64 := by rw [h4, e2]
  have e4 : (tk 4096 (tk 64 (tk 128 (tk n s)))).1 = s.1 + n + 128 + 64 + 4096 := by rw [h1, e3]
  refine ⟨h11, ?_, by omega, ?_⟩
  · unfold adv; rw [h1, e3]
  · unfold row4; rw [e1, e2, e3, e4]
theorem fin_over (l : List Int) : ∀ (s : Int × Bool), (fin l s).2 = false → s.2 = false := by
  induction l with
  | nil => intro s h; exact h
  | cons a l ih => intro s h; exact (adv_exact (ih _ h)).1
theorem fin_app (l m : List Int) : ∀ s, fin (l ++ m) s = fin m (fin l s) := by
  induction l with
  | nil => intro s; rfl
  | cons a l ih => intro s; exact ih _
theorem rows_app (l m : List Int) : ∀ s, rows (l ++ m) s = rows l s ++ rows m (fin l s) := by
  induction l with
  | nil => intro s; rfl
  | cons a l ih => intro s; simp [rows, fin, ih]
/-- the k-th place, where nothing went over -/
theorem place_at {zs : List Int} {s : Int × Bool} {k : Nat} (hk : k < zs.length) (h : (fin zs s).2 = false) :
    (fin (zs.take k) s).2 = false ∧ fin (zs.take (k + 1)) s = ((fin (zs.take k) s).1 + nth zs k + 128 + 64 + 4096, false) ∧ (fin (zs.take k) s).1 + nth zs k + 128 + 64 + 4096 ≤ 262144 ∧
    ∀ j u, [Value.int .i64 (fin (zs.take k) s).1, .int .i64 ((fin (zs.take k) s).1 + nth zs k), .int .i64 ((fin (zs.take k) s).1 + nth zs k + 128), .int .i64 ((fin (zs.take k) s).1 + nth zs k + 128 + 64), .int .i64 ((fin (zs.take k) s).1 + nth zs k + 128 + 64 + 4096)][j]? = some u → (rows zs s)[k * 5 + j]? = some u := by
  have e1 : zs = zs.take k ++ (nth zs k :: zs.drop (k + 1)) := by
    conv => lhs; rw [← List.take_append_drop (k + 1) zs, take_snoc_nth zs k hk]
    simp
  have h' := h
  rw [e1, fin_app] at h'
  have h2 := fin_over _ _ (show (fin (zs.drop (k + 1)) (adv (nth zs k) (fin (zs.take k) s))).2 = false from h')
  obtain ⟨a1, a2, a3, a4⟩ := adv_exact h2
  refine ⟨a1, ?_, a3, ?_⟩
  · rw [take_snoc_nth zs k hk, fin_snoc, a2]
  · intro j u hj
    rw [e1, rows_app, List.getElem?_append_right (by rw [rows_len, List.length_take]; omega), rows_len, List.length_take, Nat.min_eq_left (by omega)]
    show (row4 (nth zs k) (fin (zs.take k) s) ++ _)[_]? = _
    rw [a4, show k * 5 + j - 5 * k = j from by omega, List.getElem?_append_left (by
      have := (List.getElem?_eq_some_iff.1 hj).1
      exact this)]
    exact hj

theorem mkErr_zero {n : Int} {zs : List Int} (h : mkErr n zs = 0) : (fin zs (s0 n)).2 = false ∧ (∀ j, j < zs.length → 0 ≤ nth zs j) ∧ zs.length ≤ 4 := by
  unfold mkErr at h
  split at h
  · omega
  · split at h
    · omega
    · split at h
      · omega
      · split at h
        · omega
        · rename_i h2 h3 h4
          refine ⟨by simpa using h4, fun j hj => ?_, by omega⟩
          rcases Int.lt_or_le (nth zs j) 0 with h | h
          · exact absurd ⟨j, hj, h⟩ h2
          · exact h

theorem mkErr_13 {n : Int} {zs : List Int} (h : mkErr n zs ≠ 0) : mkErr n zs = 1 ∨ mkErr n zs = 3 := by
  unfold mkErr at h ⊢
  by_cases c1 : n < 0
  · rw [if_pos c1]; exact .inl rfl
  · rw [if_neg c1] at h ⊢
    by_cases c2 : ∃ j, j < zs.length ∧ nth zs j < 0
    · rw [if_pos c2]; exact .inl rfl
    · rw [if_neg c2] at h ⊢
      by_cases c3 : 4 < zs.length
      · rw [if_pos c3]; exact .inr rfl
      · rw [if_neg c3] at h ⊢
        by_cases c4 : (fin zs (s0 n)).2 = true
        · rw [if_pos c4]; exact .inr rfl
        · rw [if_neg c4] at h; exact absurd rfl h

theorem fin_ok' {words : Int} {zs : List Int} (h : ∀ j, j < zs.length → 0 ≤ nth zs j) (hw : 0 ≤ words) (k : Nat) : 1 ≤ (fin (zs.take k) (s0 words)).1 ∧ (fin (zs.take k) (s0 words)).1 ≤ 262144 := by
  refine fin_ok (fun n hn => ?_) hw k
  obtain ⟨j, hj, rfl⟩ := List.mem_iff_getElem.1 hn
  have := h j hj
  simpa [nth, hj] using this

theorem s0_start {n : Int} {zs : List Int} (h : (fin zs (s0 n)).2 = false) : (s0 n).1 = n + 2 + 16 := by
  have h1 := fin_over _ _ h
  unfold s0 at h1 ⊢
  obtain ⟨h2, h3, h4⟩ := tk_exact h1
  obtain ⟨h5, h6, h7⟩ := tk_exact h3
  rw [h2, h5]
  simp only
  omega

end Go.Proofs.YtilkpmjkiohfdaaGreatDoor

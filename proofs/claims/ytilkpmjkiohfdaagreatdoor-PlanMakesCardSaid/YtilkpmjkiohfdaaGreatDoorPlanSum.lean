/- What plan.Make answers, by sums. -/
import Derived.Test.YtilkpmjkiohfdaaGreatDoorPlanEx
namespace Go.Proofs.YtilkpmjkiohfdaaGreatDoor
open Go.RowKit

def sumF : List Int → Int
  | [] => 0
  | n :: l => n + 4288 + sumF l
def rrow (n a : Int) : List Value := [.int .i64 a, .int .i64 (a + n), .int .i64 (a + n + 128), .int .i64 (a + n + 128 + 64), .int .i64 (a + n + 128 + 64 + 4096)]
def rrows : List Int → Int → List Value
  | [], _ => []
  | n :: l, a => rrow n a ++ rrows l (a + n + 4288)
theorem sumF_snoc (l : List Int) (n : Int) : sumF (l ++ [n]) = sumF l + (n + 4288) := by
  induction l with
  | nil => simp [sumF]
  | cons a l ih => simp [sumF, ih]; omega
theorem rrows_snoc (l : List Int) (n : Int) : ∀ a, rrows (l ++ [n]) a = rrows l a ++ rrow n (a + sumF l) := by
  induction l with
  | nil => intro a; simp [rrows, sumF]
  | cons b l ih =>
    intro a
    have e : a + b + 4288 + sumF l = a + (b + 4288 + sumF l) := by omega
    simp [rrows, sumF, ih, e]
theorem rrows_len (l : List Int) : ∀ a, (rrows l a).length = 5 * l.length := by
  induction l with
  | nil => intro a; rfl
  | cons b l ih => intro a; simp [rrows, rrow, ih]; omega
theorem sumF_pos {l : List Int} (h : ∀ n ∈ l, 0 ≤ n) : 0 ≤ sumF l := by
  induction l with
  | nil => simp [sumF]
  | cons a l ih =>
    have := ih fun n hn => h n (by simp [hn])
    have := h a (by simp)
    simp only [sumF]; omega
theorem sumF_mem {l : List Int} (h : ∀ n ∈ l, 0 ≤ n) {x : Int} (hx : x ∈ l) : x ≤ sumF l := by
  induction l with
  | nil => simp at hx
  | cons a l ih =>
    have hp := sumF_pos (l := l) fun n hn => h n (by simp [hn])
    have ha := h a (by simp)
    simp only [sumF]
    rcases List.mem_cons.1 hx with rfl | hx
    · omega
    · have := ih (fun n hn => h n (by simp [hn])) hx
      omega
theorem adv_lin {n a : Int} (hn : 0 ≤ n) (h : a + n + 4288 ≤ 262144) : adv n (a, false) = (a + n + 4288, false) ∧ row4 n (a, false) = rrow n a := by
  have t1 : tk n (a, false) = (a + n, false) := by unfold tk; rw [if_neg (by simp only; omega)]
  have t2 : tk 128 (a + n, false) = (a + n + 128, false) := by unfold tk; rw [if_neg (by simp only; omega)]
  have t3 : tk 64 (a + n + 128, false) = (a + n + 128 + 64, false) := by unfold tk; rw [if_neg (by simp only; omega)]
  have t4 : tk 4096 (a + n + 128 + 64, false) = (a + n + 128 + 64 + 4096, false) := by unfold tk; rw [if_neg (by simp only; omega)]
  refine ⟨?_, ?_⟩
  · unfold adv
    rw [t1, t2, t3, t4]
    simp only [Prod.mk.injEq, and_true]
    omega
  · unfold row4 rrow
    rw [t1, t2, t3, t4]
theorem adv_far {n a : Int} (h : ¬ a + n + 4288 ≤ 262144) : (adv n (a, false)).2 = true := by
  cases hc : (adv n (a, false)).2 with
  | true => rfl
  | false =>
    obtain ⟨-, -, h1, -⟩ := adv_exact hc
    simp only at h1
    omega
theorem fin_true (l : List Int) (s : Int × Bool) (h : s.2 = true) : (fin l s).2 = true := by
  cases hc : (fin l s).2 with
  | true => rfl
  | false => rw [fin_over l s hc] at h; cases h
theorem fin_lin : ∀ (l : List Int) (a : Int), (∀ n ∈ l, 0 ≤ n) → a + sumF l ≤ 262144 → fin l (a, false) = (a + sumF l, false) ∧ rows l (a, false) = rrows l a
  | [], a, _, _ => by simp [fin, sumF, rows, rrows]
  | n :: l, a, h, hs => by
    have hn := h n (by simp)
    have hl : ∀ m ∈ l, 0 ≤ m := fun m hm => h m (by simp [hm])
    have hp := sumF_pos hl
    simp only [sumF] at hs
    obtain ⟨e1, e2⟩ := adv_lin hn (show a + n + 4288 ≤ 262144 by omega)
    obtain ⟨i1, i2⟩ := fin_lin l (a + n + 4288) hl (by omega)
    refine ⟨?_, ?_⟩
    · simp only [fin, e1, i1, sumF, Prod.mk.injEq, and_true]; omega
    · simp only [rows, rrows, e1, e2, i2]
theorem fin_far : ∀ (l : List Int) (a : Int), (∀ n ∈ l, 0 ≤ n) → a ≤ 262144 → ¬ a + sumF l ≤ 262144 → (fin l (a, false)).2 = true
  | [], a, _, h1, h2 => by simp [sumF] at h2; omega
  | n :: l, a, h, _, hs => by
    have hn := h n (by simp)
    simp only [sumF] at hs
    by_cases hc : a + n + 4288 ≤ 262144
    · rw [fin, (adv_lin hn hc).1]
      exact fin_far l _ (fun m hm => h m (by simp [hm])) hc (by omega)
    · exact fin_true l _ (adv_far hc)
theorem s0_lin {words : Int} (h0 : 0 ≤ words) : s0 words = (words + 18, false) ∧ words + 18 ≤ 262144 ∨ (s0 words).2 = true ∧ ¬ words + 18 ≤ 262144 := by
  unfold s0
  by_cases h1 : 262144 - 1 < words
  · have e : tk words (1, false) = (1, true) := by unfold tk; rw [if_pos (by exact h1)]
    rw [e]
    refine .inr ⟨?_, by omega⟩
    unfold tk
    split <;> rfl
  · have e : tk words (1, false) = (1 + words, false) := by unfold tk; rw [if_neg (by exact h1)]
    rw [e]
    unfold tk
    by_cases h2 : 262144 - (1 + words) < 17
    · rw [if_pos (by exact h2)]; exact .inr ⟨rfl, by omega⟩
    · rw [if_neg (by exact h2)]; exact .inl ⟨by simp only [Prod.mk.injEq, and_true]; omega, by omega⟩
theorem nth_mem {zs : List Int} (h : ∀ j, j < zs.length → 0 ≤ nth zs j) : ∀ n ∈ zs, 0 ≤ n := fun n hn => by
  obtain ⟨j, hj, rfl⟩ := List.mem_iff_getElem.1 hn
  have := h j hj
  simpa [nth, hj] using this
/-- what Make says, by the sum -/
theorem mkErr_sum {words : Int} {zs : List Int} (h : 0 ≤ words) (h1 : ∀ j, j < zs.length → 0 ≤ nth zs j) (h2 : zs.length ≤ 4) : mkErr words zs = if words + 18 + sumF zs ≤ 262144 then 0 else 3 := by
  rw [mkErr_fin h h1 h2]
  have hp := sumF_pos (nth_mem h1)
  rcases s0_lin h with ⟨e, hs⟩ | ⟨e, hs⟩
  · rw [e]
    by_cases hc : words + 18 + sumF zs ≤ 262144
    · rw [(fin_lin zs _ (nth_mem h1) hc).1, if_pos hc]; rfl
    · rw [fin_far zs _ (nth_mem h1) hs hc, if_neg hc]; rfl
  · rw [fin_true zs _ e, if_pos rfl, if_neg (by omega)]
theorem mk_sum {words : Int} {zs : List Int} (h : 0 ≤ words) (h1 : ∀ j, j < zs.length → 0 ≤ nth zs j) (hc : words + 18 + sumF zs ≤ 262144) : (fin zs (s0 words)).1 = words + 18 + sumF zs ∧ rows zs (s0 words) = rrows zs (words + 18) := by
  have hp := sumF_pos (nth_mem h1)
  rcases s0_lin h with ⟨e, hs⟩ | ⟨e, hs⟩
  · rw [e]
    obtain ⟨e1, e2⟩ := fin_lin zs _ (nth_mem h1) hc
    rw [e1]
    exact ⟨rfl, e2⟩
  · omega
end Go.Proofs.YtilkpmjkiohfdaaGreatDoor

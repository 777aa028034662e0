/- The walk of PlanParts. -/
import Derived.Test.YtjdjekffkoidmaaPlanLaw
namespace Go.Proofs.Ytjdjekffkoidmaa
open Go.RowKit

theorem tk_exact {n : Int} {s : Int × Bool} (h : (tk n s).2 = false) : tk n s = (s.1 + n, false) ∧ s.2 = false ∧ s.1 + n ≤ 262144 := by
  unfold tk at h ⊢
  split at h
  · simp at h
  · rename_i hn
    rw [if_neg hn]
    simp only at h
    exact ⟨by rw [h], h, by omega⟩
theorem adv_exact {n : Int} {s : Int × Bool} (h : (adv n s).2 = false) : s.2 = false ∧ adv n s = (s.1 + n + 128 + 64 + 4096, false) ∧ s.1 + n + 128 + 64 + 4096 ≤ 262144 ∧
    row4 n s = [.int .i64 s.1, .int .i64 (s.1 + n), .int .i64 (s.1 + n + 128), .int .i64 (s.1 + n + 128 + 64), .int .i64 (s.1 + n + 128 + 64 + 4096)] := by
  obtain ⟨h1, h2, h3⟩ := tk_exact h
  obtain ⟨h4, h5, h6⟩ := tk_exact h2
  obtain ⟨h7, h8, h9⟩ := tk_exact h5
  obtain ⟨h10, h11, h12⟩ := tk_exact h8
  have e1 : (tk n s).1 = s.1 + n := by rw [h10]
  have e2 : (tk 128 (tk n s)).1 = s.1 + n + 128 := by rw [h7, e1]
  have e3 : (tk 64 (tk 128 (tk n s))).1 = s.1 + n + 128 + 64 := by rw [h4, e2]
  have e4 : (tk 4096 (tk 64 (tk 128 (tk n s)))).1 = s.1 + n + 128 + 64 + 4096 := by rw [h1, e3]
  refine ⟨h11, ?_, by omega, ?_⟩
  · unfold adv; rw [h1, e3]
  · unfold row4; rw [e1, e2, e3, e4]
theorem fin_over (l : List Int) : ∀ (s : Int × Bool), (fin l s).2 = false → s.2 = false := by
  induction l with
  | nil => intro s h; exact h
  | cons a l ih => intro s h; exact (adv_exact (ih _ h)).1
theorem fin_app (l m : List Int) : ∀ s, fin (l ++ m) s = fin m (fin l s) := by
  induction l with
  | nil => intro s; rfl
  | cons a l ih => intro s; exact ih _
theorem rows_app (l m : List Int) : ∀ s, rows (l ++ m) s = rows l s ++ rows m (fin l s) := by
  induction l with
  | nil => intro s; rfl
  | cons a l ih => intro s; simp [rows, fin, ih]
/-- the k-th place, where nothing went over -/
theorem place_at {zs : List Int} {s : Int × Bool} {k : Nat} (hk : k < zs.length) (h : (fin zs s).2 = false) :
    (fin (zs.take k) s).2 = false ∧ fin (zs.take (k + 1)) s = ((fin (zs.take k) s).1 + nth zs k + 128 + 64 + 4096, false) ∧ (fin (zs.take k) s).1 + nth zs k + 128 + 64 + 4096 ≤ 262144 ∧
    ∀ j u, [Value.int .i64 (fin (zs.take k) s).1, .int .i64 ((fin (zs.take k) s).1 + nth zs k), .int .i64 ((fin (zs.take k) s).1 + nth zs k + 128), .int .i64 ((fin (zs.take k) s).1 + nth zs k + 128 + 64), .int .i64 ((fin (zs.take k) s).1 + nth zs k + 128 + 64 + 4096)][j]? = some u → (rows zs s)[k * 5 + j]? = some u := by
  have e1 : zs = zs.take k ++ (nth zs k :: zs.drop (k + 1)) := by
    conv => lhs; rw [← List.take_append_drop (k + 1) zs, take_snoc_nth zs k hk]
    simp
  have h' := h
  rw [e1, fin_app] at h'
  have h2 := fin_over _ _ (show (fin (zs.drop (k + 1)) (adv (nth zs k) (fin (zs.take k) s))).2 = false from h')
  obtain ⟨a1, a2, a3, a4⟩ := adv_exact h2
  refine ⟨a1, ?_, a3, ?_⟩
  · rw [take_snoc_nth zs k hk, fin_snoc, a2]
  · intro j u hj
    rw [e1, rows_app, List.getElem?_append_right (by rw [rows_len, List.length_take]; omega), rows_len, List.length_take, Nat.min_eq_left (by omega)]
    show (row4 (nth zs k) (fin (zs.take k) s) ++ _)[_]? = _
    rw [a4, show k * 5 + j - 5 * k = j from by omega, List.getElem?_append_left (by
      have := (List.getElem?_eq_some_iff.1 hj).1
      exact this)]
    exact hj

theorem mkErr_zero {n : Int} {zs : List Int} (h : mkErr n zs = 0) : (fin zs (s0 n)).2 = false ∧ (∀ j, j < zs.length → 0 ≤ nth zs j) ∧ zs.length ≤ 4 := by
  unfold mkErr at h
  split at h
  · omega
  · split at h
    · omega
    · split at h
      · omega
      · split at h
        · omega
        · rename_i h2 h3 h4
          refine ⟨by simpa using h4, fun j hj => ?_, by omega⟩
          rcases Int.lt_or_le (nth zs j) 0 with h | h
          · exact absurd ⟨j, hj, h⟩ h2
          · exact h

theorem mkErr_13 {n : Int} {zs : List Int} (h : mkErr n zs ≠ 0) : mkErr n zs = 1 ∨ mkErr n zs = 3 := by
  unfold mkErr at h ⊢
  by_cases c1 : n < 0
  · rw [if_pos c1]; exact .inl rfl
  · rw [if_neg c1] at h ⊢
    by_cases c2 : ∃ j, j < zs.length ∧ nth zs j < 0
    · rw [if_pos c2]; exact .inl rfl
    · rw [if_neg c2] at h ⊢
      by_cases c3 : 4 < zs.length
      · rw [if_pos c3]; exact .inr rfl
      · rw [if_neg c3] at h ⊢
        by_cases c4 : (fin zs (s0 n)).2 = true
        · rw [if_pos c4]; exact .inr rfl
        · rw [if_neg c4] at h; exact absurd rfl h

theorem fin_ok' {words : Int} {zs : List Int} (h : ∀ j, j < zs.length → 0 ≤ nth zs j) (hw : 0 ≤ words) (k : Nat) : 1 ≤ (fin (zs.take k) (s0 words)).1 ∧ (fin (zs.take k) (s0 words)).1 ≤ 262144 := by
  refine fin_ok (fun n hn => ?_) hw k
  obtain ⟨j, hj, rfl⟩ := List.mem_iff_getElem.1 hn
  have := h j hj
  simpa [nth, hj] using this

theorem s0_start {n : Int} {zs : List Int} (h : (fin zs (s0 n)).2 = false) : (s0 n).1 = n + 2 + 16 := by
  have h1 := fin_over _ _ h
  unfold s0 at h1 ⊢
  obtain ⟨h2, h3, h4⟩ := tk_exact h1
  obtain ⟨h5, h6, h7⟩ := tk_exact h3
  rw [h2, h5]
  simp only
  omega

set_option maxRecDepth 100000 in
set_option maxHeartbeats 1000000 in
theorem parts_any (n : Int) (ao : Option Addr) (zs : List Int) (cap : Nat) (w : World) (hz : Ints w (.slice ao zs.length cap) zs) (hm : zs.length ≤ 9223372036854775807) :
    Calls Try.prog 3 #[.int .i64 n, .slice ao zs.length cap] w fun e w' => e = .returned (.bool true) ∧ Below w.heap.size w w' := by
  go_enter Try.func3, Try.ntmps3
  go_wp2_with fail
  refine (make_any n _ zs _ _ hz hm).mono ?_
  rintro e w1 ⟨v, rfl, hv, hown, hb1⟩
  have HZ := hidI hz
  clear hz
  by_cases he : mkErr n zs = 0
  · have hr := mkErr_range he
    obtain ⟨hr1, hr2⟩ := hr
    obtain ⟨hf1, hf3, hf4⟩ := mkErr_zero he
    have ho := hown he
    obtain ⟨ao', c, rfl⟩ := ownsRow_shape ho
    clear hv hown
    rw [if_pos he, if_pos he, he]
    clear he
    have HO := hidI ho
    have HF := hidI hf1
    have HF3 := hidI hf3
    clear ho hf1 hf3
    go_wp2_with fail
    refine (clock_any _ _ _ _).mono ?_
    rintro e w2 ⟨rfl, hb2⟩
    rw [show wrap64 (n + 1) = n + 1 from by unfold wrap64; omega]
    have hp := blk hb2 (block_new w1 (.cells #[.int .i64 n, .slice ao' zs.length c, .int .i64 (fin zs (s0 n)).1] 25))
    have c0 : w2.cell? ⟨w1.heap.size, 0, .none⟩ = some (.int .i64 n) := cell_of_block hp rfl
    have c1 : w2.cell? ⟨w1.heap.size, 1, .none⟩ = some (.slice ao' zs.length c) := cell_of_block hp rfl
    have c2 : w2.cell? ⟨w1.heap.size, 2, .none⟩ = some (.int .i64 (fin zs (s0 n)).1) := cell_of_block hp rfl
    have HP := hidI hp
    clear hp
    go_wp2_with fail
    refine (lock_any _ _ _ _ _).mono ?_
    rintro e w3 ⟨rfl, hb3⟩
    rw [show wrap64 (wrap64 (n + 2) + stripeOf 0) = n + 2 from by rw [show stripeOf 0 = 0 from by decide +kernel]; unfold wrap64; omega]
    clear c0 c1 c2
    go_wp2_with fail
    have hb : Below (w1.alloc (.cells #[.int .i64 n, .slice ao' zs.length c, .int .i64 (fin zs (s0 n)).1] 25)).heap.size (w1.alloc (.cells #[.int .i64 n, .slice ao' zs.length c, .int .i64 (fin zs (s0 n)).1] 25)) w3 := bnext hb2 hb3
    have HB := hidI hb
    clear hb
    go_loopw [7, 8] (fun at_ i wr => ∃ k : Nat, k ≤ zs.length ∧ at_ = .int .i64 (fin (zs.take k) (s0 n)).1 ∧ i = .int .i64 k ∧ Below (w1.alloc (.cells #[.int .i64 n, .slice ao' zs.length c, .int .i64 (fin zs (s0 n)).1] 25)).heap.size (w1.alloc (.cells #[.int .i64 n, .slice ao' zs.length c, .int .i64 (fin zs (s0 n)).1] 25)) wr) (fun _ i _ => zs.length - (intOf i).toNat)
    case atStart => exact ⟨0, Nat.zero_le _, by rw [← s0_start HF.out]; rfl, rfl, HB.out⟩
    case round =>
      obtain ⟨k, hk, rfl, rfl, hbr⟩ := hrel
      have hp := blk hbr (block_new w1 (.cells #[.int .i64 n, .slice ao' zs.length c, .int .i64 (fin zs (s0 n)).1] 25))
      have c1 : wr.cell? ⟨w1.heap.size, 1, .none⟩ = some (.slice ao' zs.length c) := cell_of_block hp rfl
      have c2 : wr.cell? ⟨w1.heap.size, 2, .none⟩ = some (.int .i64 (fin zs (s0 n)).1) := cell_of_block hp rfl
      clear hp
      by_cases hlt : k < zs.length
      · obtain ⟨b, off, hao, hbs, hcell⟩ := Ints.at HZ.out hlt
        subst hao
        obtain ⟨q1, q2, q3, q4⟩ := place_at hlt HF.out
        have hn0 := HF3.out k hlt
        obtain ⟨g, cur, hg1, hg2, hg3, hg4, hg5⟩ := ownsRow_some HO.out (by omega)
        subst hg1
        have hg6 : wr.heap[g]? = some (.cells cur 33 (0, 0)) := blk hbr (block_alloc hg3)
        have x0 : wr.cell? ⟨g, k * 5, .none⟩ = some (.int .i64 (fin (zs.take k) (s0 n)).1) := cell_of_block hg6 (hg5 _ _ (q4 0 _ rfl))
        have x1 : wr.cell? ⟨g, k * 5 + 1, .none⟩ = some (.int .i64 ((fin (zs.take k) (s0 n)).1 + nth zs k)) := cell_of_block hg6 (hg5 _ _ (q4 1 _ rfl))
        have x2 : wr.cell? ⟨g, k * 5 + 2, .none⟩ = some (.int .i64 ((fin (zs.take k) (s0 n)).1 + nth zs k + 128)) := cell_of_block hg6 (hg5 _ _ (q4 2 _ rfl))
        have x3 : wr.cell? ⟨g, k * 5 + 3, .none⟩ = some (.int .i64 ((fin (zs.take k) (s0 n)).1 + nth zs k + 128 + 64)) := cell_of_block hg6 (hg5 _ _ (q4 3 _ rfl))
        have x4 : wr.cell? ⟨g, k * 5 + 4, .none⟩ = some (.int .i64 ((fin (zs.take k) (s0 n)).1 + nth zs k + 128 + 64 + 4096)) := cell_of_block hg6 (hg5 _ _ (q4 4 _ rfl))
        have Q2 := hidI q2
        clear q1 q2 q4 hg3 hg5 hg6
        have hge : 1 ≤ (fin (zs.take k) (s0 n)).1 := (fin_ok' HF3.out hr1 k).1
        generalize (fin (zs.take k) (s0 n)).1 = p at *
        have cf : ∀ o, (wr.alloc o).cell? ⟨b, off + k, .none⟩ = some (.int .i64 (nth zs k)) := fun o => cell_later (((hb1.alloc hb1.size _).trans (hbr.mono (by have := hb1.size; simp; omega))).alloc (by have := hb1.size; have := hbr.size; simp at this; omega) _) hcell
        clear hcell
        go_wp2_with fail
        have e1 : p + nth zs k - p = nth zs k := by omega
        have e2 : p + nth zs k + 128 - (p + nth zs k) = 128 := by omega
        have e3 : p + nth zs k + 128 + 64 - (p + nth zs k + 128) = 64 := by omega
        have e4 : p + nth zs k + 128 + 64 + 4096 - (p + nth zs k + 128 + 64) = 4096 := by omega
        have w1' : IntKind.i64.wrap (nth zs k) = nth zs k := IntWalk.i64_in _ (by omega)
        go_quiet (fail)
        clear e1 e2 e3 e4 w1'
        go_wp2_with fail
        exact ⟨⟨k + 1, by omega, by rw [Q2.out], by go_num, below_drewN (hbr.alloc hbr.size _) _⟩, by simp [intOf]; omega⟩
      · obtain rfl : k = zs.length := by omega
        clear hk hlt
        rw [List.take_length]
        have hle : (fin zs (s0 n)).1 ≤ 262144 := by have := (fin_ok' HF3.out hr1 zs.length).2; rwa [List.take_length] at this
        go_wp2_with fail
        refine (lives_any _).mono ?_
        rintro e w4 ⟨rfl, hb4⟩
        go_wp2
        go_ret
        exact ⟨rfl, bnext (bnextA hb1 hbr) hb4⟩
  · obtain rfl := hv he
    rw [if_neg he, if_neg he]
    clear hv hown
    have h13 : mkErr n zs = 1 ∨ mkErr n zs = 3 := mkErr_13 he
    rcases h13 with h1 | h1
    · rw [h1]
      clear he h1
      go_wp2_with fail
      refine (lives_any _).mono ?_
      rintro e w4 ⟨rfl, hb4⟩
      go_wp2
      go_ret
      exact ⟨rfl, bnextA hb1 hb4⟩
    · rw [h1]
      clear he h1
      go_wp2_with fail
      refine (lives_any _).mono ?_
      rintro e w4 ⟨rfl, hb4⟩
      go_wp2
      go_ret
      exact ⟨rfl, bnextA hb1 hb4⟩

end Go.Proofs.Ytjdjekffkoidmaa

/- The walks of the laws of plan: says, locks, stripes, parts. -/
import Derived.Test.YtjdjekffkoidmaaPlanLives
namespace Go.Proofs.Ytjdjekffkoidmaa
open Go.RowKit

theorem cell_of_any {w : World} {b o : Nat} {c : Array Value} {t : TypeId} {v : Value} {f : Nat × Nat} (h : w.heap[b]? = some (.cells c t f)) (hv : c[o]? = some v) : w.cell? ⟨b, o, .none⟩ = some v := by simp [World.cell?, h, hv]

set_option maxHeartbeats 1000000 in
theorem says_any (a b : Int) (w : World) : Calls Try.prog 6 #[.int .i64 a, .int .i64 b] w fun e w' => e = .returned (.bool true) ∧ Below w.heap.size w w' := by
  by_cases h : 0 ≤ a ∧ a ≤ 1099511627776 ∧ 0 ≤ b ∧ b ≤ 1099511627776
  · obtain ⟨h1, h2, h3, h4⟩ := h
    have hm : (2 * a + 1) % 2 = 1 := by omega
    have Hm := hidI hm
    clear hm
    go_enter Try.func6, Try.ntmps6
    go_wp2_with fail
    refine (locked_odd _ _ (by rw [and_1, Hm.out]; rfl)).mono ?_
    rintro e w1 ⟨rfl, rfl⟩
    rw [show (2 * a + 1) / 2 = a from by omega]
    go_wp2_with fail
    refine (locked_even _ _ (by rw [and_1]; simp)).mono ?_
    rintro e w1 ⟨rfl, rfl⟩
    rw [show (2 * b) / 2 = b from by omega]
    go_wp2_with fail
    refine (lives_any _).mono ?_
    rintro e w1 ⟨rfl, hb1⟩
    go_wp2
    go_ret
    exact ⟨rfl, hb1⟩
  · by_cases c1 : a < 0
    · go_enter Try.func6, Try.ntmps6
      go_wp2_with fail
      refine (lives_any _).mono ?_
      rintro e w1 ⟨rfl, hb1⟩
      go_wp2
      go_ret
      exact ⟨rfl, hb1⟩
    · by_cases c2 : 1099511627776 < a
      · go_enter Try.func6, Try.ntmps6
        go_wp2_with fail
        refine (lives_any _).mono ?_
        rintro e w1 ⟨rfl, hb1⟩
        go_wp2
        go_ret
        exact ⟨rfl, hb1⟩
      · by_cases c3 : b < 0
        · go_enter Try.func6, Try.ntmps6
          go_wp2_with fail
          refine (lives_any _).mono ?_
          rintro e w1 ⟨rfl, hb1⟩
          go_wp2
          go_ret
          exact ⟨rfl, hb1⟩
        · have c4 : 1099511627776 < b := by omega
          go_enter Try.func6, Try.ntmps6
          go_wp2_with fail
          refine (lives_any _).mono ?_
          rintro e w1 ⟨rfl, hb1⟩
          go_wp2
          go_ret
          exact ⟨rfl, hb1⟩

/-! ### the reference's small functions -/
set_option maxHeartbeats 400000 in
theorem rstripe_any (a : Int) (w : World) :
    Calls Try.prog 17 #[.int .i64 a] w fun e w' => e = .returned (.int .i64 (stripeOf a)) ∧ w' = w := by
  go_enter Try.func17, Try.ntmps17
  go_wp2
  go_ret
  exact ⟨rfl, rfl⟩

set_option maxHeartbeats 400000 in
theorem rlocked_odd (a : Int) (w : World) (h : (a.tmod 2 != 0) = true) :
    Calls Try.prog 14 #[.int .i64 a] w fun e w' => e = .returned (.tuple #[.bool true, .int .i64 (a / 2), .int .i64 0]) ∧ w' = w := by
  go_enter Try.func14, Try.ntmps14
  go_wp2
  go_ret3
  exact ⟨rfl, rfl⟩

set_option maxHeartbeats 400000 in
theorem rlocked_even (a : Int) (w : World) (h0 : -9223372036854775808 ≤ a) (h1 : a ≤ 9223372036854775807) (h : (a.tmod 2 != 0) = false) :
    Calls Try.prog 14 #[.int .i64 a] w fun e w' => e = .returned (.tuple #[.bool false, .int .i64 0, .int .i64 (a.tdiv 2)]) ∧ w' = w := by
  go_enter Try.func14, Try.ntmps14
  go_wp2
  go_ret3
  exact ⟨rfl, rfl⟩

set_option maxHeartbeats 400000 in
theorem rclock_any (a s : Int) (v : Value) (w : World) :
    Calls Try.prog 15 #[.agg #[.int .i64 a, v, .int .i64 s]] w fun e w' => e = .returned (.int .i64 (wrap64 (a + 1))) ∧ Below w.heap.size w w' := by
  go_enter Try.func15, Try.ntmps15
  go_wp2
  go_ret
  exact ⟨rfl, (Below.refl _ _).alloc (Nat.le_refl _) _⟩

set_option maxHeartbeats 400000 in
theorem rlock_any (a s b : Int) (v : Value) (w : World) :
    Calls Try.prog 16 #[.agg #[.int .i64 a, v, .int .i64 s], .int .i64 b] w fun e w' => e = .returned (.int .i64 (wrap64 (wrap64 (a + 2) + stripeOf b))) ∧ Below w.heap.size w w' := by
  go_enter Try.func16, Try.ntmps16
  go_wp2
  go_quiet ((go_at_call 17; exact Calls.quiet_of_same (rstripe_any _ _)))
  go_wp2
  go_ret
  exact ⟨rfl, below_drewN ((Below.refl _ _).alloc (Nat.le_refl _) _) _⟩

set_option maxHeartbeats 1000000 in
theorem locks_any (a s b v : Int) (x : Value) (w : World) (h0 : -9223372036854775808 ≤ v) (h1 : v ≤ 9223372036854775807) :
    Calls Try.prog 5 #[.agg #[.int .i64 a, x, .int .i64 s], .int .i64 b, .int .i64 v] w fun e w' => e = .returned (.bool true) ∧ Below w.heap.size w w' := by
  have hp := block_new w (.cells #[.int .i64 a, x, .int .i64 s] 25)
  have c0 : ∀ t, (ext (w.alloc (.cells #[.int .i64 a, x, .int .i64 s] 25)) t).cell? ⟨w.heap.size, 0, .none⟩ = some (.int .i64 a) := fun t => cell_of_block (ext_block hp t) rfl
  have c1 : ∀ t, (ext (w.alloc (.cells #[.int .i64 a, x, .int .i64 s] 25)) t).cell? ⟨w.heap.size, 1, .none⟩ = some x := fun t => cell_of_block (ext_block hp t) rfl
  have c2 : ∀ t, (ext (w.alloc (.cells #[.int .i64 a, x, .int .i64 s] 25)) t).cell? ⟨w.heap.size, 2, .none⟩ = some (.int .i64 s) := fun t => cell_of_block (ext_block hp t) rfl
  clear hp
  by_cases hv : v % 2 = 1
  · go_enter Try.func5, Try.ntmps5
    go_wp2_with fail
    refine (locked_odd _ _ (by rw [and_1]; simpa using hv)).mono ?_
    rintro e w1 ⟨rfl, rfl⟩
    go_wp2_with fail
    refine (rlocked_odd _ _ (by simpa using fun h => by have := Int.emod_eq_zero_of_dvd (Int.dvd_of_tmod_eq_zero h); omega)).mono ?_
    rintro e w1 ⟨rfl, rfl⟩
    go_wp2_with fail
    refine wp_region_grow (by kernel_rfl) (by kernel_rfl) ?_
    repeat (go_big_quiet_step ((first
      | (go_at_call 10; exact grow_of (clock_any _ _ _ _))
      | (go_at_call 15; exact grow_of (rclock_any _ _ _ _))
      | (go_at_call 11; exact grow_of (lock_any _ _ _ _ _))
      | (go_at_call 16; exact grow_of (rlock_any _ _ _ _ _))
      | (go_at_call 12; exact grow_of_same (stripe_any _ _))
      | (go_at_call 17; exact grow_of_same (rstripe_any _ _))
      | (go_at_call 9; exact grow_of (lives_any _)))))
    refine wpQuiet_nil ?_
    intro w' hb
    go_wp2
    go_ret
    exact ⟨rfl, bnext ((Below.refl _ _).alloc (Nat.le_refl _) _) hb⟩
  · have hd : (2 : Int) ∣ v := Int.dvd_of_emod_eq_zero (by omega)
    have Hd := hidI hd
    clear hd
    go_enter Try.func5, Try.ntmps5
    go_wp2_with fail
    refine (locked_even _ _ (by rw [and_1]; simpa using hv)).mono ?_
    rintro e w1 ⟨rfl, rfl⟩
    go_wp2_with fail
    refine (rlocked_even _ _ h0 h1 (by simpa using Int.tmod_eq_zero_of_dvd Hd.out)).mono ?_
    rintro e w1 ⟨rfl, rfl⟩
    rw [Int.tdiv_eq_ediv_of_dvd Hd.out]
    go_wp2_with fail
    refine wp_region_grow (by kernel_rfl) (by kernel_rfl) ?_
    repeat (go_big_quiet_step ((first
      | (go_at_call 10; exact grow_of (clock_any _ _ _ _))
      | (go_at_call 15; exact grow_of (rclock_any _ _ _ _))
      | (go_at_call 11; exact grow_of (lock_any _ _ _ _ _))
      | (go_at_call 16; exact grow_of (rlock_any _ _ _ _ _))
      | (go_at_call 12; exact grow_of_same (stripe_any _ _))
      | (go_at_call 17; exact grow_of_same (rstripe_any _ _))
      | (go_at_call 9; exact grow_of (lives_any _)))))
    refine wpQuiet_nil ?_
    intro w' hb
    go_wp2
    go_ret
    exact ⟨rfl, bnext ((Below.refl _ _).alloc (Nat.le_refl _) _) hb⟩

theorem mkErr_range {n : Int} {zs : List Int} (h : mkErr n zs = 0) : 0 ≤ n ∧ n ≤ 262144 := by
  unfold mkErr at h
  split at h
  · omega
  · split at h
    · omega
    · split at h
      · omega
      · split at h
        · omega
        · rename_i h1 _ _ h2
          refine ⟨by omega, ?_⟩
          have key : ∀ (l : List Int) (s : Int × Bool), s.2 = true → (fin l s).2 = true := by
            intro l
            induction l with
            | nil => intro s hs; exact hs
            | cons a l ih =>
              intro s hs
              refine ih _ ?_
              have st : ∀ n (s : Int × Bool), s.2 = true → (tk n s).2 = true := by intro n s hs; unfold tk; split <;> simp [hs]
              exact st _ _ (st _ _ (st _ _ (st _ _ hs)))
          rcases Int.lt_or_le 262144 n with hn | hn
          · exfalso
            apply h2
            refine key _ _ ?_
            unfold s0
            have : tk n (1, false) = (1, true) := by unfold tk; rw [if_pos (by simp; omega)]
            rw [this]; decide
          · exact hn

/-- of two words with no lock's plan: their locks are one just if their stripes are -/
theorem stripe_range (a : Int) : 0 ≤ stripeOf a ∧ stripeOf a ≤ 15 := by unfold stripeOf; rw [and_15]; omega

set_option maxHeartbeats 1000000 in
theorem stripes_any (n a b : Int) (w : World) :
    Calls Try.prog 4 #[.int .i64 n, .int .i64 a, .int .i64 b] w fun e w' => e = .returned (.bool true) ∧ Below w.heap.size w w' := by
  go_enter Try.func4, Try.ntmps4
  go_wp2_with fail
  refine (make_any n _ [] _ _ (Ints.none _) (by simp)).mono ?_
  rintro e w1 ⟨v, rfl, hv, hown, hb1⟩
  by_cases he : mkErr n [] = 0
  · have hr : 0 ≤ n ∧ n ≤ 262144 := mkErr_range he
    obtain ⟨hr1, hr2⟩ := hr
    obtain ⟨ao, c, rfl⟩ := ownsRow_shape (hown he)
    clear hv hown
    rw [if_pos he, if_pos he, he]
    clear he
    have ha := stripe_range a
    have hb := stripe_range b
    obtain ⟨ha1, ha2⟩ := ha
    obtain ⟨hc1, hc2⟩ := hb
    go_wp2_with fail
    refine (lock_any _ _ _ _ _).mono ?_
    rintro e w2 ⟨rfl, hb2⟩
    rw [show wrap64 (wrap64 (n + 2) + stripeOf a) = n + 2 + stripeOf a from by unfold wrap64; omega]
    have hp := blk hb2 (block_new w1 (.cells #[.int .i64 n, .slice ao ([] : List Int).length c, .int .i64 (fin [] (s0 n)).1] 25))
    have c0 := cell_of_block (o := 0) hp rfl
    have c1 := cell_of_block (o := 1) hp rfl
    have c2 := cell_of_block (o := 2) hp rfl
    simp only [List.getElem_toArray, List.getElem_cons_zero, List.getElem_cons_succ] at c0 c1 c2
    clear hp
    go_wp2_with fail
    refine (lock_any _ _ _ _ _).mono ?_
    rintro e w3 ⟨rfl, hb3⟩
    rw [show wrap64 (wrap64 (n + 2) + stripeOf b) = n + 2 + stripeOf b from by unfold wrap64; omega]
    clear c0 c1 c2
    by_cases hab : stripeOf a = stripeOf b
    · have t1 : ((n + 2 + stripeOf a : Int) == n + 2 + stripeOf b) = true := by rw [hab]; simp
      have t2 : ((stripeOf a : Int) == stripeOf b) = true := by rw [hab]; simp
      have t3 : (bits BinOp.and IntKind.i64 a 15 == bits BinOp.and IntKind.i64 b 15) = true := t2
      clear hab
      go_wp2_with fail
      refine (stripe_any _ _).mono ?_
      rintro e w4 ⟨rfl, rfl⟩
      go_wp2_with fail
      refine (stripe_any _ _).mono ?_
      rintro e w4 ⟨rfl, rfl⟩
      go_wp2_with fail
      refine (lives_any _).mono ?_
      rintro e w4 ⟨rfl, hb4⟩
      go_wp2
      go_ret
      exact ⟨rfl, bnext (bnextA hb1 hb2) (bnext hb3 hb4)⟩
    · have t1 : ((n + 2 + stripeOf a : Int) == n + 2 + stripeOf b) = false := by rw [beq_eq_false_iff_ne]; omega
      have t2 : ((stripeOf a : Int) == stripeOf b) = false := by rw [beq_eq_false_iff_ne]; exact hab
      have t3 : (bits BinOp.and IntKind.i64 a 15 == bits BinOp.and IntKind.i64 b 15) = false := t2
      clear hab
      go_wp2_with fail
      refine (stripe_any _ _).mono ?_
      rintro e w4 ⟨rfl, rfl⟩
      go_wp2_with fail
      refine (stripe_any _ _).mono ?_
      rintro e w4 ⟨rfl, rfl⟩
      go_wp2_with fail
      refine (lives_any _).mono ?_
      rintro e w4 ⟨rfl, hb4⟩
      go_wp2
      go_ret
      exact ⟨rfl, bnext (bnextA hb1 hb2) (bnext hb3 hb4)⟩
  · obtain rfl := hv he
    rw [if_neg he, if_neg he]
    have hb : (mkErr n [] != 0) = true := by simpa using he
    clear hv hown he
    go_wp2_with fail
    refine (lives_any _).mono ?_
    rintro e w4 ⟨rfl, hb4⟩
    go_wp2
    go_ret
    exact ⟨rfl, bnextA hb1 hb4⟩

end Go.Proofs.Ytjdjekffkoidmaa

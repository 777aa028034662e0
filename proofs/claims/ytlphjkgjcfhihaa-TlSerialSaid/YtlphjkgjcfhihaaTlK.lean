/- Package tl2: the contract of step. -/
import Derived.Test.YtlphjkgjcfhihaaTlJ
namespace Go.Proofs.Ytlphjkgjcfhihaa
set_option linter.unusedVariables false
set_option linter.unusedSimpArgs false
open Go.RowKit

variable {w w' : World} {base b m t : Nat} {tw : TW} {ts : List (Th × Value)} {ev : Value}

theorem lock_set (tw : TW) (n : Nat) (y t : Th) : ({ tw with ths := tw.ths.set n y } : TW).lock n t = tw.lock n t := by
  unfold TW.lock
  cases wanted t with
  | some s => simp only [TW.abort, List.set_set]
  | none => simp only [TW.abort, List.set_set]

set_option maxHeartbeats 2000000 in
theorem step_any (h : TlAt w base b m t tw ts ev) {n : Nat} {x : Th × Value} (hx : ts[n]? = some x) (hn4 : n < 4) {i : Nat} (hok : ThOk x.1 tw.mem.length i) (hi : i ≤ 70000) (hlen : tw.evs.length < 70000) (hck : 0 ≤ tw.clock ∧ tw.clock ≤ 70000) :
    Calls Try.prog 29 #[.pointer (some ⟨b, 0, none⟩), .int .i64 (n : Int)] w (TlDone base b m t (tw.step n x.1) w) := by
  have c1 := h.wcell 18 _ rfl
  have hn : n < ts.length := (List.getElem?_eq_some_iff.1 hx).1
  have c2 : w.cell? ⟨t, n * 22, none⟩ = some (.int .u8 x.1.phase) := h.cell hx 0 _ rfl
  have f2 := h.free (n * 22)
  obtain ⟨ao, c, hv, _⟩ := h.logcell hx
  have c3 : w.cell? ⟨t, n * 22 + 3, none⟩ = some (.slice ao x.1.log.length c) := by rw [← hv]; exact h.cell hx 3 _ rfl
  have c4 : w.cell? ⟨t, n * 22 + 1, none⟩ = some (.int .i64 x.1.clock) := h.cell hx 1 _ rfl
  have H := hidI h
  have HX := hidI hx
  have HOK := hidI hok
  have HL := hidI hlen
  have HN4 := hidI hn4
  have HCK := hidI hck
  have HI := hidI hi
  clear h hx hok hlen hn4 hck hi hv
  rcases HOK.out.ph with hp | hp | hp | hp
  · have HR := hidI (show tw.step n x.1 = tw from by unfold TW.step; rw [if_neg (by omega), if_neg (by omega), if_neg (by omega)])
    rw [hp] at c2
    clear hp
    go_enter Try.func29, Try.ntmps29
    go_wp2_with fail
    go_end0
    rw [HR.out]
    exact ⟨rfl, ⟨ts, ev, H.out⟩, Below.refl _ _⟩
  · rw [hp] at c2
    by_cases hl : x.1.log = []
    · have HR := hidI (show tw.step n x.1 = { tw with ths := tw.ths.set n Th.none, evs := tw.evs ++ [⟨n, 7, x.1.clock, 0⟩] } from by unfold TW.step; rw [if_pos hp, if_pos hl])
      rw [hl] at c3
      simp only [List.length_nil] at c3
      clear hp hl
      go_enter Try.func29, Try.ntmps29
      go_wp2_with fail
      refine (tell_any H.out HL.out ⟨n, 7, x.1.clock, 0⟩).mono ?_
      rintro r w2 ⟨rfl, ⟨ev', h1⟩, hc1⟩
      have q1 : w2.there t (n * 22) (encTh noTh).toArray.size := h1.there HX.out
      have q2 : (Try.prog.info? 80).map (·.size) = some (encTh noTh).toArray.size := thInfo
      have q3 := encTh_one noTh rfl
      have H1 := hidI h1
      have HC1 := hidI hc1
      clear h1 hc1 c1 c2 c3 c4 f2
      go_wp2_with (refine wpList_store_mid rfl 80 _ _ rfl t (n * 22) (encTh noTh).toArray rfl rfl q1 q2 q3 ?_)
      have hw2 := H1.out.setTh HX.out noTh
      go_end0
      rw [HR.out]
      refine ⟨rfl, ⟨ts.set n noTh, ev', H1.out.thread HX.out noTh (Chg.setCells (.inl rfl) _ _ (Chg.refl _ w2)) hw2 (noTh_log _ _) (fun g hg => by cases hg)⟩, ?_⟩
      refine Chg.below (S := fun k => k = t) ?_ H1.out.base_le (Chg.setCells (S := fun k => k = t) rfl _ _ (Chg.refl _ w2)) (fun k hk => by rw [hk]; exact H1.out.lt)
      exact HC1.out.to_below H.out.base_le H.out.ev_base
    · have HR := hidI (show tw.step n x.1 = tw.lock n { x.1 with phase := 2 } from by unfold TW.step; rw [if_pos hp, if_neg hl])
      have hl0 : ((x.1.log.length : Int) == 0) = false := by
        have := List.length_pos_iff.2 hl
        rw [beq_eq_false_iff_ne]; omega
      have h1 := H.out.poke HX.out { x.1 with phase := 2 } rfl (fun e => by rw [hp] at e; exact absurd e (by decide)) 0 (.int .u8 2) (by decide) rfl
      rw [Nat.add_zero] at h1
      have H1 := hidI h1
      have HX1 := hidI (set_self_at HX.out ({ x.1 with phase := 2 }, x.2))
      have HOK1 := hidI (show ThOk { x.1 with phase := 2 } tw.mem.length i from ⟨.inr (.inr (.inl rfl)), HOK.out.log, HOK.out.len, HOK.out.rd, HOK.out.hd, HOK.out.now0, HOK.out.now1⟩)
      clear hp hl h1
      go_enter Try.func29, Try.ntmps29
      go_wp2_with fail
      refine (lock_any H1.out HX1.out HN4.out HOK1.out HL.out HCK.out).mono ?_
      rintro r w2 ⟨rfl, hts, hb⟩
      have HT := hidI hts
      have HB := hidI hb
      clear hts hb
      go_wp2_with fail
      go_end0
      rw [HR.out]
      have h2 := HT.out
      simp only [lock_set] at h2
      refine ⟨rfl, h2, ?_⟩
      exact (Chg.to_below (S := fun k => k = t) ((Chg.refl (fun k => k = t) w).setCell (p := ⟨t, n * 22, none⟩) (.inl rfl) _) H.out.base_le (fun j hj => by rw [hj]; exact H.out.lt)).trans HB.out
  · have HR := hidI (show tw.step n x.1 = tw.lock n x.1 from by unfold TW.step; rw [if_neg (by omega), if_pos hp])
    rw [hp] at c2
    clear hp
    go_enter Try.func29, Try.ntmps29
    go_wp2_with fail
    refine (lock_any H.out HX.out HN4.out HOK.out HL.out HCK.out).mono ?_
    rintro r w2 ⟨rfl, hts, hb⟩
    have HT := hidI hts
    have HB := hidI hb
    clear hts hb
    go_wp2_with fail
    go_end0
    rw [HR.out]
    exact ⟨rfl, HT.out, HB.out⟩
  · have HR := hidI (show tw.step n x.1 = tw.back n x.1 from by unfold TW.step; rw [if_neg (by omega), if_neg (by omega), if_pos hp])
    rw [hp] at c2
    have HC := hidI (show Calls Try.prog 43 #[.pointer (some ⟨b, 0, none⟩), .int .i64 (n : Int)] w (TlDone base b m t (tw.back n x.1) w) from by
      cases hl : x.1.log with
      | nil => exact back_end H.out HX.out HOK.out HI.out hl
      | cons e l =>
        obtain ⟨e1, e2⟩ := e
        obtain ⟨l1, l2⟩ := HOK.out.log (e1, e2) (by rw [hl]; simp)
        obtain ⟨a, rfl⟩ : ∃ a : Nat, e1 = (a : Int) := ⟨e1.toNat, by simp only at l1; omega⟩
        exact back_word H.out HX.out hp (by simp only at l2; omega) HOK.out.len hl)
    clear hp
    go_enter Try.func29, Try.ntmps29
    go_wp2_with fail
    refine HC.out.mono ?_
    rintro r w2 ⟨rfl, hts, hb⟩
    have HT := hidI hts
    have HB := hidI hb
    clear hts hb
    go_wp2_with fail
    go_end0
    rw [HR.out]
    exact ⟨rfl, HT.out, HB.out⟩

end Go.Proofs.Ytlphjkgjcfhihaa

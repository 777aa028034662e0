/- The document's Run: step. -/
import Derived.Test.YtilkpmjkiohfdaaGreatDoorTrH
import Derived.Test.YtilkpmjkiohfdaaGreatDoorTlK
namespace Go.Proofs.YtilkpmjkiohfdaaGreatDoor
open Go.RowKit
set_option linter.unusedVariables false
set_option linter.unusedSimpArgs false

variable {w w' : World} {base b m t : Nat} {tw : TW} {ts : List RX} {ev : Value}

set_option maxRecDepth 100000 in
set_option maxHeartbeats 4000000 in
theorem rstep_any (h : RtAt w base b m t tw ts ev) {n : Nat} {x : RX} (hx : ts[n]? = some x) (hn4 : n < 4) {i : Nat} (hok : ThOk x.th tw.mem.length i) (hnw : NwOk n tw.locks x.th) (hi : i ≤ 70000) (hlen : tw.evs.length < 70000) (hck : 0 ≤ tw.clock ∧ tw.clock ≤ 70000) :
    Calls Tryz.prog 216 #[.pointer (some ⟨b, 0, none⟩), .int .i64 (n : Int)] w (RtDone base b m t (tw.step n x.th) w) := by
  have c1 := h.wcell 18 _ rfl
  have hn : n < ts.length := (List.getElem?_eq_some_iff.1 hx).1
  have c2 : w.cell? ⟨t, n * 53, none⟩ = some (.int .i64 x.th.phase) := h.cell hx 0 _ rfl
  have f2 := h.free (n * 53)
  obtain ⟨ao, c, hv, hcell⟩ := h.logcell hx
  have c3 : w.cell? ⟨t, n * 53 + 18, none⟩ = some (.slice ao x.ws.length c) := by rw [← hv]; exact h.cell hx 18 _ (encRh_18 x)
  have c4 : w.cell? ⟨t, n * 53 + 1, none⟩ = some (.int .i64 x.th.clock) := h.cell hx 1 _ rfl
  have hz1 := zero_rh
  have hz2 := zeroRh_size
  have H := hidI h
  have HX := hidI hx
  have HOK := hidI hok
  have HL := hidI hlen
  have HN4 := hidI hn4
  have HCK := hidI hck
  have HI := hidI hi
  have HV := hidI hv
  have HC := hidI hcell
  have HNW := hidI hnw
  clear h hx hok hlen hn4 hck hi hv hcell hnw
  rcases HOK.out.ph with hp | hp | hp | hp
  · have HR := hidI (show tw.step n x.th = tw from by unfold TW.step; rw [if_neg (by omega), if_neg (by omega), if_neg (by omega)])
    rw [hp] at c2
    clear hp
    go_enter Tryz.func216, Tryz.ntmps216
    go_wp2_with fail
    go_end0
    rw [HR.out]
    exact ⟨rfl, ⟨ts, ev, H.out⟩, Below.refl _ _⟩
  · rw [hp] at c2
    have hb0 : x.back = 0 := (H.out.log n x HX.out).2.2.2.2 (by omega)
    have hlw : x.th.log = x.ws := by have := (H.out.log n x HX.out).2.2.1; rw [hb0] at this; exact this
    by_cases hl : x.ws = []
    · have HR := hidI (show tw.step n x.th = { tw with ths := tw.ths.set n Th.none, evs := tw.evs ++ [⟨n, 7, x.th.clock, 0⟩] } from by unfold TW.step; rw [if_pos hp, if_pos (by rw [hlw]; exact hl)])
      rw [hl] at c3
      simp only [List.length_nil] at c3
      clear hp hl hb0 hlw
      go_enter Tryz.func216, Tryz.ntmps216
      go_wp2_with fail
      refine (rtell_any H.out HL.out ⟨n, 7, x.th.clock, 0⟩).mono ?_
      rintro r w2 ⟨rfl, ⟨ev', h1⟩, hc1⟩
      have hst := store_rh h1 HX.out noRh rfl (cs := zeroRh) rfl
      have c9 := h1.wcell 18 _ rfl
      have H1 := hidI h1
      have HC1 := hidI hc1
      clear h1 hc1 c1 c2 c3 c4 f2
      go_wp2_with fail
      have hw2 := H1.out.setTh HX.out noRh
      go_end0
      rw [HR.out]
      refine ⟨rfl, ⟨ts.set n noRh, ev', H1.out.thread HX.out noRh (Chg.setCells (.inl rfl) _ _ (Chg.refl _ w2)) hw2 (noRh_log _ _) (fun g hg => by cases hg)⟩, ?_⟩
      refine Chg.below (S := fun k => k = t) ?_ H1.out.base_le (Chg.setCells (S := fun k => k = t) rfl _ _ (Chg.refl _ w2)) (fun k hk => by rw [hk]; exact H1.out.lt)
      exact HC1.out.to_below H.out.base_le H.out.ev_base
    · have HR := hidI (show tw.step n x.th = tw.lock n { x.th with phase := 2 } from by unfold TW.step; rw [if_pos hp, if_neg (by rw [hlw]; exact hl)])
      have hl0 : ((x.ws.length : Int) == 0) = false := by
        have := List.length_pos_iff.2 hl
        rw [beq_eq_false_iff_ne]; omega
      have h1 := H.out.poke HX.out { x with th := { x.th with phase := 2 } } rfl rfl (H.out.log n x HX.out).2.2.1 (H.out.log n x HX.out).2.2.2.1 (fun _ => hb0) 0 (.int .i64 2) (by decide) rfl
      rw [Nat.add_zero] at h1
      have H1 := hidI h1
      have HX1 := hidI (set_self_at HX.out { x with th := { x.th with phase := 2 } })
      have HOK1 := hidI (show ThOk { x.th with phase := 2 } tw.mem.length i from ⟨.inr (.inr (.inl rfl)), HOK.out.log, HOK.out.len, HOK.out.rd, HOK.out.hd, HOK.out.now0, HOK.out.now1⟩)
      have HNW1 := hidI (show NwOk n tw.locks { x.th with phase := 2 } from HNW.out.same rfl rfl)
      clear hp hl h1 hb0 hlw
      go_enter Tryz.func216, Tryz.ntmps216
      go_wp2_with fail
      refine (rlock_any H1.out HX1.out HN4.out HOK1.out (by show (2 : Int) ≠ 3; decide) HNW1.out HL.out HCK.out).mono ?_
      rintro r w2 ⟨rfl, hts, hb⟩
      have HT := hidI hts
      have HB := hidI hb
      clear hts hb
      go_wp2_with fail
      go_end0
      rw [HR.out]
      have h2 := HT.out
      simp only [lock_set] at h2
      refine ⟨rfl, h2, ?_⟩
      exact (Chg.to_below (S := fun k => k = t) ((Chg.refl (fun k => k = t) w).setCell (p := ⟨t, n * 53, none⟩) (.inl rfl) _) H.out.base_le (fun j hj => by rw [hj]; exact H.out.lt)).trans HB.out
  · have HR := hidI (show tw.step n x.th = tw.lock n x.th from by unfold TW.step; rw [if_neg (by omega), if_pos hp])
    have HP3 := hidI (show x.th.phase ≠ 3 from by omega)
    rw [hp] at c2
    clear hp
    go_enter Tryz.func216, Tryz.ntmps216
    go_wp2_with fail
    refine (rlock_any H.out HX.out HN4.out HOK.out HP3.out HNW.out HL.out HCK.out).mono ?_
    rintro r w2 ⟨rfl, hts, hb⟩
    have HT := hidI hts
    have HB := hidI hb
    clear hts hb
    go_wp2_with fail
    go_end0
    rw [HR.out]
    exact ⟨rfl, HT.out, HB.out⟩
  · rw [hp] at c2
    have hdrop := (H.out.log n x HX.out).2.2.1
    have hbk := (H.out.log n x HX.out).2.2.2.1
    have c5 : w.cell? ⟨t, n * 53 + 52, none⟩ = some (.int .i64 x.back) := H.out.cell HX.out _ _ (encRh_52 x)
    have f5 := H.out.free (n * 53 + 52)
    by_cases hl : x.back < x.ws.length
    · obtain ⟨e, he⟩ := some_at hl
      obtain ⟨g, o, rfl, hg, hcs⟩ := HC.out (by omega)
      obtain ⟨d1, d2⟩ := hcs x.back e he
      have hlog : x.th.log = e :: x.ws.drop (x.back + 1) := by
        rw [hdrop, List.drop_eq_getElem_cons hl]
        obtain ⟨h9, rfl⟩ := List.getElem?_eq_some_iff.1 he
        rfl
      have he2 := HOK.out.log e (by rw [hlog]; simp)
      obtain ⟨e1, v⟩ := e
      obtain ⟨a, rfl⟩ : ∃ a : Nat, e1 = (a : Int) := ⟨e1.toNat, by simp only at he2; omega⟩
      have ha : a < tw.mem.length := by simp only at he2; omega
      have HR := hidI (show tw.step n x.th = { tw with mem := tw.mem.set a v, ths := tw.ths.set n { x.th with log := x.ws.drop (x.back + 1) } } from by
        unfold TW.step
        rw [if_neg (by omega), if_neg (by omega), if_pos hp]
        unfold TW.back
        rw [hlog]
        rfl)
      have c0 := H.out.wcell 0 _ rfl
      have c6 := H.out.memcell ha
      have f6 : w.frozen? ⟨m, a, none⟩ = false := free_of_block H.out.mem
      have hgm : ¬ g = m := fun e => (H.out.lg_ne n g x HX.out (by rw [HV.out]; rfl)).2.1 e
      have hgt : ¬ g = t := fun e => (H.out.lg_ne n g x HX.out (by rw [HV.out]; rfl)).2.2.1 e
      have hbm : ¬ b = m := H.out.bm
      have htm : ¬ t = m := fun e => H.out.mt e.symm
      have hb64 : x.back ≤ 64 := by
        omega
      have hbl : decide ((x.back : Int) < (x.ws.length : Int)) = true := decide_eq_true (by omega)
      have HDP := hidI hdrop
      have HP := hidI hp
      have HBK := hidI hbk
      have HLOG := hidI hlog
      clear hdrop hp hbk hlog hcs he he2 hg
      go_enter Tryz.func216, Tryz.ntmps216
      go_wp2_with fail
      go_quiet (fail)
      go_wp2_with fail
      have k0 : (w.drewN nq).cell? ⟨b, 0, none⟩ = some (.slice (some ⟨m, 0, none⟩) tw.mem.length tw.mem.length) := c0
      have k2 : (w.drewN nq).cell? ⟨t, n * 53 + 18, none⟩ = some (.slice (some ⟨g, o, none⟩) x.ws.length c) := c3
      have k5 : (w.drewN nq).cell? ⟨t, n * 53 + 52, none⟩ = some (.int .i64 x.back) := c5
      have k3 : (w.drewN nq).cell? ⟨g, o + x.back * 2, none⟩ = some (.int .i64 a) := d1
      have k4 : (w.drewN nq).cell? ⟨g, o + x.back * 2 + 1, none⟩ = some (.int .i64 v) := d2
      have k6 : (w.drewN nq).cell? ⟨m, a, none⟩ = some (.int .i64 (tw.mem.getD a 0)) := c6
      have k7 : (w.drewN nq).frozen? ⟨m, a, none⟩ = false := f6
      have H0 := hidI (H.out.drewN nq)
      have HB0 := hidI (below_drewN (Below.refl base w) nq)
      clear c0 c1 c2 c3 c4 c5 d1 d2 c6 f6 f2 f5 hbl
      generalize w.drewN nq = w1 at H0 HB0 k0 k2 k3 k4 k5 k6 k7 ⊢
      go_region_held3 (fun w' => w'.cell? ⟨b, 0, none⟩ = some (.slice (some ⟨m, 0, none⟩) tw.mem.length tw.mem.length) ∧ w'.cell? ⟨t, n * 53 + 18, none⟩ = some (.slice (some ⟨g, o, none⟩) x.ws.length c) ∧ w'.cell? ⟨t, n * 53 + 52, none⟩ = some (.int .i64 x.back) ∧
        w'.cell? ⟨g, o + x.back * 2, none⟩ = some (.int .i64 a) ∧ w'.cell? ⟨g, o + x.back * 2 + 1, none⟩ = some (.int .i64 v)) (refine ⟨?_, ?_, ?_, ?_, ?_⟩ <;> first | assumption | (refine cell_otherD ?_ ?_ <;> assumption) | simp only [World.cell?_drew, *]) (fail)
      have h2 := (H0.out.word ((Chg.refl (fun k => k = m) w1).setCell (p := ⟨m, a, none⟩) (.inl rfl) _) a v (block_setCell _ H0.out.mem)).drew
      have hb2 := Chg.to_below (S := fun k => k = m) (((Chg.refl (fun k => k = m) w1).setCell (p := ⟨m, a, none⟩) (.inl rfl) (.int .i64 v)).drew) H0.out.base_le (fun k hk => by rw [hk]; exact H.out.lm)
      have e5 := h2.cell HX.out 52 _ (encRh_52 x)
      have g5 := h2.free (n * 53 + 52)
      have e6 : IntKind.i64.wrap ((x.back : Int) + 1) = x.back + 1 := IntWalk.i64_in _ (by omega)
      have H2 := hidI h2
      have HB2 := hidI (HB0.out.trans hb2)
      clear h2 hb2 k0 k2 k3 k4 k5 k6 k7
      generalize (w1.setCell ⟨m, a, none⟩ (.int .i64 v)).drew = w2 at H2 HB2 e5 g5 ⊢
      go_wp2_with fail
      go_end0
      have h3 := H2.out.poke HX.out { x with th := { x.th with log := x.ws.drop (x.back + 1) }, back := x.back + 1 } rfl rfl rfl ⟨by show x.back + 1 ≤ x.ws.length; omega, HBK.out.2⟩ (fun e => absurd HP.out e) 52 (.int .i64 (x.back + 1)) (by decide) (encRh_backs x (x.back + 1) _)
      have hb3 := Chg.to_below (S := fun k => k = t) ((Chg.refl (fun k => k = t) w2).setCell (p := ⟨t, n * 53 + 52, none⟩) (.inl rfl) (.int .i64 (x.back + 1))) H2.out.base_le (fun k hk => by rw [hk]; exact H.out.lt)
      rw [HR.out]
      exact ⟨rfl, ⟨_, ev, h3⟩, HB2.out.trans hb3⟩
    · have hlog : x.th.log = [] := by rw [hdrop, List.drop_eq_nil_of_le (by omega)]
      have HR := hidI (show tw.step n x.th = { tw with locks := freed x.th.held (fun _ => 2 * x.th.now) tw.locks, ths := tw.ths.set n Th.none } from by
        unfold TW.step
        rw [if_neg (by omega), if_neg (by omega), if_pos hp]
        unfold TW.back
        rw [hlog])
      have hbl : decide ((x.back : Int) < (x.ws.length : Int)) = false := decide_eq_false (by omega)
      have hN := HOK.out.now0
      have hN2 := HOK.out.now1
      have e1 : IntKind.i64.wrap (2 * x.th.now) = 2 * x.th.now := IntWalk.i64_in _ (by have := HI.out; omega)
      have HDP := hidI hdrop
      have HP := hidI hp
      clear hdrop hp hbk hlog hN hN2
      go_enter Tryz.func216, Tryz.ntmps216
      go_wp2_with fail
      go_quiet (fail)
      go_wp2_with fail
      have H0 := hidI (H.out.drewN nq)
      have HB0 := hidI (below_drewN (Below.refl base w) nq)
      clear c1 c2 c3 c4 c5 f2 f5 hbl
      generalize w.drewN nq = w1 at H0 HB0 ⊢
      go_loopw [5] (fun i w' => ∃ k : Nat, k ≤ 16 ∧ i = .int .i64 (k : Int) ∧ Hid (RtAt w' base b m t { tw with locks := freedK x.th.held (fun _ => 2 * x.th.now) tw.locks k } ts ev) ∧ Hid (Chg (fun k => k = b) w1 w')) (fun i _ => ((16 : Int) - intOf i).toNat)
      case atStart => exact ⟨0, by omega, rfl, by rw [freedK_zero]; exact H0, hidI (Chg.refl _ _)⟩
      case round =>
        obtain ⟨k, hk, rfl, HT, HC1⟩ := hrel
        by_cases hlt : k < 16
        · have c3 : wr.cell? ⟨t, n * 53 + 19 + k, none⟩ = some (.bool (x.th.held.testBit k)) := by rw [Nat.add_assoc]; exact HT.out.cell HX.out _ _ (encRh_held x hlt)
          have c4 : wr.cell? ⟨t, n * 53 + 51, none⟩ = some (.int .i64 x.th.now) := HT.out.cell HX.out _ _ (encRh_51 x)
          cases hbit : x.th.held.testBit k with
          | true =>
            rw [hbit] at c3
            have c2 := HT.out.wcell (2 + k) _ (encW_lock _ _ _ _ _ k hlt)
            have f2 := HT.out.wfree (2 + k)
            have HB := hidI hbit
            clear hbit
            go_wp2_with fail
            go_region
            all_goals go_wp2_with fail
            all_goals (
              have hset := block_setCell (o := 2 + k) (.int .i64 (2 * x.th.now)) HT.out.blk
              rw [encW_set _ _ _ _ _ _ k hlt, ← freedK_yes (say := fun _ => 2 * x.th.now) HB.out] at hset
              exact ⟨⟨k + 1, by omega, by go_num, hidI ((HT.out.world ((Chg.refl (fun k => k = b) wr).setCell (p := ⟨b, 2 + k, none⟩) (.inl rfl) _) _ _ hset).drew), hidI ((HC1.out.setCell (p := ⟨b, 2 + k, none⟩) (.inl rfl) _).drew)⟩, by simp [intOf]; omega⟩)
          | false =>
            rw [hbit] at c3
            have HB := hidI hbit
            clear hbit
            go_wp2_with fail
            exact ⟨⟨k + 1, by omega, by go_num, by rw [freedK_no HB.out]; exact HT, HC1⟩, by simp [intOf]; omega⟩
        · obtain rfl : k = 16 := by omega
          have c9 := HT.out.wcell 18 _ rfl
          have hst := store_rh HT.out HX.out noRh rfl (cs := zeroRh) rfl
          go_wp2_with fail
          have hw2 := HT.out.setTh HX.out noRh
          go_end0
          rw [HR.out]
          refine ⟨rfl, ⟨ts.set n noRh, ev, HT.out.thread HX.out noRh (Chg.setCells (.inl rfl) _ _ (Chg.refl _ wr)) hw2 (noRh_log _ _) (fun g hg => by cases hg)⟩, ?_⟩
          refine Chg.below (S := fun k => k = t) ?_ HT.out.base_le (Chg.setCells (S := fun k => k = t) rfl _ _ (Chg.refl _ wr)) (fun k hk => by rw [hk]; exact HT.out.lt)
          exact Chg.below HB0.out H0.out.base_le HC1.out (fun k hk => by rw [hk]; exact H.out.lb)
end Go.Proofs.YtilkpmjkiohfdaaGreatDoor

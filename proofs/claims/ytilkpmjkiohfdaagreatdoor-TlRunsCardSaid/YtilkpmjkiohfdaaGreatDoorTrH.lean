/- The document's Run: lock. -/
import Derived.Test.YtilkpmjkiohfdaaGreatDoorTrG
import Derived.Test.YtilkpmjkiohfdaaGreatDoorTlI
namespace Go.Proofs.YtilkpmjkiohfdaaGreatDoor
open Go.RowKit
set_option linter.unusedVariables false
set_option linter.unusedSimpArgs false

variable {w w' : World} {base b m t : Nat} {tw : TW} {ts : List RX} {ev : Value}

theorem needs_bit (l : List (Int × Int)) (s : Nat) : (needs l).testBit s = l.any (fun c => decide (stripeN c.1 = s)) := by
  have key : ∀ (l : List (Int × Int)) (m : Nat), (l.foldl (fun m c => m ||| 1 <<< stripeN c.1) m).testBit s = (m.testBit s || l.any (fun c => decide (stripeN c.1 = s))) := by
    intro l
    induction l with
    | nil => intro m; simp
    | cons c l ih =>
      intro m
      rw [List.foldl_cons, ih, testBit_set, List.any_cons, Bool.or_assoc]
      have : decide (s = stripeN c.1) = decide (stripeN c.1 = s) := by simp [eq_comm]
      rw [this]
  unfold needs
  rw [key l 0]
  simp

theorem nat_beq (a b : Nat) : ((a : Int) == (b : Int)) = decide (a = b) := by
  rw [Bool.eq_iff_iff]
  simp
  omega

/-- does one of the first q stores lie at the stripe? -/
def anyAt (l : List (Int × Int)) (q s : Nat) : Bool := (l.take q).any (fun c => decide (stripeN c.1 = s))
theorem anyAt_zero (l : List (Int × Int)) (s : Nat) : anyAt l 0 s = false := rfl
theorem anyAt_succ {l : List (Int × Int)} {q : Nat} {c : Int × Int} (h : l[q]? = some c) (s : Nat) : anyAt l (q + 1) s = (anyAt l q s || decide (stripeN c.1 = s)) := by
  unfold anyAt
  rw [take_snoc h, List.any_append]
  simp
theorem anyAt_all (l : List (Int × Int)) (s : Nat) : anyAt l l.length s = (needs l).testBit s := by
  unfold anyAt
  rw [List.take_length, needs_bit]

theorem wanted_is {x : Th} {k : Nat} (hk : k < 16) (h : ((needs x.log).testBit k && !x.held.testBit k) = true) (hs : ∀ j, j < k → ((needs x.log).testBit j && !x.held.testBit j) = false) : wanted x = some k := by
  unfold wanted
  rw [List.find?_range_eq_some]
  exact ⟨h, by simpa using hk, fun j hj => by rw [hs j hj]; rfl⟩
theorem wanted_no {x : Th} (hs : ∀ j, j < 16 → ((needs x.log).testBit j && !x.held.testBit j) = false) : wanted x = none := by
  unfold wanted
  rw [List.find?_range_eq_none]
  exact fun j hj => by rw [hs j hj]; rfl

set_option maxRecDepth 100000 in
set_option maxHeartbeats 4000000 in
theorem rlock_any (h : RtAt w base b m t tw ts ev) {n : Nat} {x : RX} (hx : ts[n]? = some x) (hn4 : n < 4) {k i : Nat} (hok : ThOk x.th k i) (hp3 : x.th.phase ≠ 3) (hnw : NwOk n tw.locks x.th) (hlen : tw.evs.length < 70000) (hck : 0 ≤ tw.clock ∧ tw.clock ≤ 70000) :
    Calls Tryz.prog 229 #[.pointer (some ⟨b, 0, none⟩), .int .i64 (n : Int)] w (RtDone base b m t (tw.lock n x.th) w) := by
  have c1 := h.wcell 18 _ rfl
  have hn : n < ts.length := (List.getElem?_eq_some_iff.1 hx).1
  obtain ⟨ao, c, hv, hcell⟩ := h.logcell hx
  have hb0 : x.back = 0 := (h.log n x hx).2.2.2.2 hp3
  have hlw : x.th.log = x.ws := by have := (h.log n x hx).2.2.1; rw [hb0] at this; exact this
  have hlen64 : x.ws.length ≤ 64 := by rw [← hlw]; exact hok.len
  have c3 : w.cell? ⟨t, n * 53 + 18, none⟩ = some (.slice ao x.ws.length c) := by rw [← hv]; exact h.cell hx 18 _ (encRh_18 x)
  have hR1 : wanted x.th = none → ∀ s, s < 16 → (x.th.reads.testBit s && stale tw.locks x.th s) = true → tw.lock n x.th = { tw with clock := tw.clock + 1 }.abort n x.th := fun hw s hs h => by
    unfold TW.lock
    rw [hw]
    simp only
    rw [if_pos (List.any_eq_true.2 ⟨s, by simpa using hs, h⟩)]
  have hR2 : wanted x.th = none → (∀ s, s < 16 → (x.th.reads.testBit s && stale tw.locks x.th s) = false) → tw.lock n x.th = { tw with clock := tw.clock + 1, ths := tw.ths.set n { x.th with now := tw.clock + 1, phase := 3 }, evs := tw.evs ++ [⟨n, 7, tw.clock + 1, 1⟩] } := fun hw h => by
    unfold TW.lock
    rw [hw]
    simp only
    rw [if_neg (fun hc => by
      obtain ⟨s, hs, h2⟩ := List.any_eq_true.1 hc
      rw [h s (by simpa using hs)] at h2
      cases h2)]
  have HR1 := hidI hR1
  have HR2 := hidI hR2
  have H := hidI h
  have HX := hidI hx
  have HOK := hidI hok
  have HL := hidI hlen
  have HN4 := hidI hn4
  have HCK := hidI hck
  have HC := hidI hcell
  have HV := hidI hv
  have HB0 := hidI hb0
  have HLW := hidI hlw
  have HP3 := hidI hp3
  have HNW := hidI hnw
  have H64 := hidI hlen64
  clear h hx hok hlen hn4 hck hcell hv hb0 hlw hp3 hnw hlen64 hR1 hR2
  go_enter Tryz.func229, Tryz.ntmps229
  go_wp2_with fail
  go_loopw [5] (fun i w' => ∃ k : Nat, k ≤ 16 ∧ i = .int .i64 (k : Int) ∧ Hid (∀ j, j < k → ((needs x.th.log).testBit j && !x.th.held.testBit j) = false) ∧ w' = w) (fun i _ => ((16 : Int) - intOf i).toNat)
  case atStart => exact ⟨0, by omega, rfl, hidI (fun j hj => by omega), rfl⟩
  case round =>
    obtain ⟨k, hk, rfl, HS, rfl⟩ := hrel
    by_cases hlt : k < 16
    · have hd : decide ((k : Int) < 16) = true := decide_eq_true (by omega)
      go_wp2_with fail
      go_loopw [7, 6] (fun i v w' => ∃ q : Nat, q ≤ x.ws.length ∧ i = .int .i64 (q : Int) ∧ v = .bool (anyAt x.ws q k) ∧ w' = wr) (fun i _ _ => ((x.ws.length : Int) - intOf i).toNat)
      case atStart => exact ⟨0, by omega, rfl, rfl, rfl⟩
      case round =>
        obtain ⟨q, hq, rfl, rfl, rfl⟩ := hrel
        by_cases hql : q < x.ws.length
        · obtain ⟨g, o, rfl, _, hcs⟩ := HC.out (by omega)
          obtain ⟨e, he⟩ := some_at hql
          obtain ⟨d1, d2⟩ := hcs q e he
          have h64 : q ≤ 64 := by have := H64.out; omega
          have HE := hidI he
          clear hcs he d2
          cases hany : anyAt x.ws q k with
          | true =>
            have HN := hidI (show anyAt x.ws (q + 1) k = true from by rw [anyAt_succ HE.out, hany]; rfl)
            clear hany
            go_wp2_with fail
            exact ⟨⟨q + 1, by omega, by go_num, by rw [HN.out], trivial⟩, by simp [intOf]; omega⟩
          | false =>
            have HN := hidI (show anyAt x.ws (q + 1) k = decide (stripeN e.1 = k) from by rw [anyAt_succ HE.out, hany]; rfl)
            clear hany
            go_wp2_with fail
            refine (rstripe_any _).mono ?_
            rintro r w2 ⟨rfl, rfl⟩
            go_wp2_with fail
            refine ⟨⟨q + 1, by omega, by go_num, by rw [HN.out, nat_beq], trivial⟩, by simp [intOf]; omega⟩
        · obtain rfl : q = x.ws.length := by omega
          have hall := anyAt_all x.ws k
          rw [← HLW.out] at hall
          cases hneed : anyAt x.ws x.ws.length k with
          | false =>
            have HS2 := hidI (show ∀ j, j < k + 1 → ((needs x.th.log).testBit j && !x.th.held.testBit j) = false from fun j hj => by
              rcases (by omega : j < k ∨ j = k) with h | rfl
              · exact HS.out j h
              · rw [← hall, HLW.out, hneed]; rfl)
            clear hall hneed
            go_wp2_with fail
            exact ⟨⟨k + 1, by omega, by go_num, HS2, trivial⟩, by simp [intOf]; omega⟩
          | true =>
            have c4 : wr.cell? ⟨t, n * 53 + 19 + k, none⟩ = some (.bool (x.th.held.testBit k)) := by rw [Nat.add_assoc]; exact H.out.cell HX.out _ _ (encRh_held x hlt)
            cases hheld : x.th.held.testBit k with
            | true =>
              rw [hheld] at c4
              have HS2 := hidI (show ∀ j, j < k + 1 → ((needs x.th.log).testBit j && !x.th.held.testBit j) = false from fun j hj => by
                rcases (by omega : j < k ∨ j = k) with h | rfl
                · exact HS.out j h
                · rw [hheld, Bool.not_true, Bool.and_false])
              clear hall hneed hheld
              go_wp2_with fail
              exact ⟨⟨k + 1, by omega, by go_num, HS2, trivial⟩, by simp [intOf]; omega⟩
            | false =>
              rw [hheld] at c4
              have HW := hidI (wanted_is hlt (by rw [← hall, HLW.out, hneed, hheld]; rfl) HS.out)
              have c2 := H.out.wcell (2 + k) _ (encW_lock _ _ _ _ _ k hlt)
              have hlo := HNW.out.lo k hlt
              cases hl : isLocked (tw.locks k) with
              | true =>
                have HR := hidI (show tw.lock n x.th = tw.abort n x.th from by unfold TW.lock; rw [HW.out]; simp only [hl, if_true])
                have HLK := hidI hl
                clear hall hneed hheld hl hlo
                go_wp2_with fail
                refine (rlocked_yes wr HLK.out).mono ?_
                rintro e w2 ⟨rfl, rfl⟩
                go_wp2_with fail
                refine (rabort_any H.out HX.out HL.out).mono ?_
                rintro e w3 ⟨rfl, hts, hb⟩
                have HT := hidI hts
                have HB3 := hidI hb
                clear hts hb
                go_wp2_with fail
                go_end0
                rw [HR.out]
                exact ⟨rfl, HT.out, HB3.out⟩
              | false =>
                have HR := hidI (show tw.lock n x.th = { tw with locks := upd tw.locks k (2 * n + 1), ths := tw.ths.set n { x.th with held := x.th.held ||| 1 <<< k, old := upd x.th.old k (tw.locks k) } } from by unfold TW.lock; rw [HW.out]; simp only [hl, Bool.false_eq_true, if_false])
                have HLK := hidI hl
                have HLO := hidI hlo
                clear hall hneed hheld hl hlo
                go_wp2_with fail
                refine (rlocked_no wr HLK.out (by have := HLO.out; omega) (by have := HLO.out; omega)).mono ?_
                rintro e w2 ⟨rfl, rfl⟩
                have f4 := H.out.free (n * 53 + 19 + k)
                have h2 := H.out.poke HX.out { x with th := { x.th with held := x.th.held ||| 1 <<< k } } rfl rfl (H.out.log n x HX.out).2.2.1 (H.out.log n x HX.out).2.2.2.1 (H.out.log n x HX.out).2.2.2.2 (19 + k) (.bool true) (by omega) (encRh_helds x hlt)
                rw [← Nat.add_assoc] at h2
                have hx2 := set_self_at HX.out { x with th := { x.th with held := x.th.held ||| 1 <<< k } }
                have c5 := h2.wcell (2 + k) _ (encW_lock _ _ _ _ _ k hlt)
                have f5 := h2.wfree (2 + k)
                have c6 : (w2.setCell ⟨t, n * 53 + 19 + k, none⟩ (.bool true)).cell? ⟨t, n * 53 + 35 + k, none⟩ = some (.int .i64 (x.th.old k)) := by rw [Nat.add_assoc (n * 53) 35 k]; exact h2.cell hx2 _ _ (encRh_old _ hlt)
                have f6 := h2.free (n * 53 + 35 + k)
                have e1 : IntKind.i64.wrap (2 * (n : Int)) = 2 * n := IntWalk.i64_in _ (by have := HN4.out; omega)
                have e2 : IntKind.i64.wrap (2 * (n : Int) + 1) = 2 * n + 1 := IntWalk.i64_in _ (by have := HN4.out; omega)
                have hbt := h2.bt
                have H2 := hidI h2
                have HX2 := hidI hx2
                clear h2 hx2
                simp only at c5
                go_wp2_with fail
                have h3 := (H2.out.poke HX2.out { x with th := { x.th with held := x.th.held ||| 1 <<< k, old := upd x.th.old k (tw.locks k) } } rfl rfl (H.out.log n x HX.out).2.2.1 (H.out.log n x HX.out).2.2.2.1 (H.out.log n x HX.out).2.2.2.2 (35 + k) (.int .i64 (tw.locks k)) (by omega) (encRh_olds { x with th := { x.th with held := x.th.held ||| 1 <<< k } } (tw.locks k) hlt))
                rw [← Nat.add_assoc] at h3
                simp only [List.set_set] at h3
                have H3n := hidI h3
                have H3 := hidI h3.drew
                clear h3
                have HBa := hidI (Chg.to_below (S := fun k => k = t) ((Chg.refl (fun k => k = t) w2).setCell (p := ⟨t, n * 53 + 19 + k, none⟩) (.inl rfl) (.bool true)) H.out.base_le (fun j hj => by rw [hj]; exact H.out.lt))
                generalize w2.setCell ⟨t, n * 53 + 19 + k, none⟩ (.bool true) = wa at H2 H3 H3n HBa c5 c6 f5 f6 ⊢
                go_region
                all_goals clear c5 f5 c6 f6
                all_goals have c5 := H3.out.wcell (2 + k) _ (encW_lock _ _ _ _ _ k hlt)
                all_goals have f5 := H3.out.wfree (2 + k)
                all_goals go_wp2_with fail
                go_end0
                rw [HR.out]
                have hset := block_setCell (o := 2 + k) (.int .i64 (2 * (n : Int) + 1)) H3n.out.blk
                rw [encW_set _ _ _ _ _ _ k hlt] at hset
                have h4 := (H3n.out.world ((Chg.refl (fun j => j = b) _).setCell (p := ⟨b, 2 + k, none⟩) (.inl rfl) _) _ _ hset).drew
                refine ⟨rfl, ⟨_, ev, h4⟩, HBa.out.trans ?_⟩
                exact Chg.to_below (S := fun k => k = t ∨ k = b) ((((Chg.refl _ wa).setCell (p := ⟨t, n * 53 + 35 + k, none⟩) (.inl (.inl rfl)) _).setCell (p := ⟨b, 2 + k, none⟩) (.inl (.inr rfl)) _).drew) H2.out.base_le (fun j hj => by
                  rcases hj with rfl | rfl
                  · exact H.out.lt
                  · exact H.out.lb)
    · obtain rfl : k = 16 := by omega
      have HW := hidI (wanted_no HS.out)
      have c5 := H.out.wcell 1 _ rfl
      have f5 := H.out.wfree 1
      have c6 := H.out.cell HX.out 51 _ (encRh_51 x)
      have f6 := H.out.free (n * 53 + 51)
      have e1 : IntKind.i64.wrap (tw.clock + 1) = tw.clock + 1 := IntWalk.i64_in _ (by have := HCK.out; omega)
      have hset := block_setCell (o := 1) (.int .i64 (tw.clock + 1)) H.out.blk
      have h2 := H.out.world ((Chg.refl (fun j => j = b) _).setCell (p := ⟨b, 1, none⟩) (.inl rfl) _) (tw.clock + 1) tw.locks hset
      have h3 := h2.poke HX.out { x with th := { x.th with now := tw.clock + 1 } } rfl rfl (H.out.log n x HX.out).2.2.1 (H.out.log n x HX.out).2.2.2.1 (H.out.log n x HX.out).2.2.2.2 51 (.int .i64 (tw.clock + 1)) (by decide) (encRh_now x _)
      have hc : Chg (fun k => k = t ∨ k = b) wr ((wr.setCell ⟨b, 1, none⟩ (.int .i64 (tw.clock + 1))).setCell ⟨t, n * 53 + 51, none⟩ (.int .i64 (tw.clock + 1))) :=
        ((Chg.refl _ wr).setCell (p := ⟨b, 1, none⟩) (.inl (.inr rfl)) _).setCell (p := ⟨t, n * 53 + 51, none⟩) (.inl (.inl rfl)) _
      have hx3 := set_self_at HX.out { x with th := { x.th with now := tw.clock + 1 } }
      have hbt := h2.bt
      have H3 := hidI h3
      have HX3 := hidI hx3
      have HC3 := hidI (hc.to_below H.out.base_le (fun j hj => by
        rcases hj with rfl | rfl
        · exact H.out.lt
        · exact H.out.lb))
      clear h2 h3 hset hc hx3
      go_wp2_with fail
      clear c5 f5 c6 f6 e1
      generalize (wr.setCell ⟨b, 1, none⟩ (.int .i64 (tw.clock + 1))).setCell ⟨t, n * 53 + 51, none⟩ (.int .i64 (tw.clock + 1)) = w3 at H3 HC3 ⊢
      go_loopw [11] (fun i w' => ∃ k : Nat, k ≤ 16 ∧ i = .int .i64 (k : Int) ∧ w' = w3 ∧ Hid (∀ s, s < k → (x.th.reads.testBit s && stale tw.locks x.th s) = false)) (fun i _ => ((16 : Int) - intOf i).toNat)
      case atStart => exact ⟨0, by omega, rfl, rfl, hidI (fun s hs => by omega)⟩
      case round =>
        obtain ⟨k, hk, rfl, rfl, HN⟩ := hrel
        by_cases hlt : k < 16
        · have c5 : wr.cell? ⟨t, n * 53 + 2 + k, none⟩ = some (.bool (x.th.reads.testBit k)) := by rw [Nat.add_assoc]; exact H3.out.cell HX3.out _ _ (encRh_read _ hlt)
          cases hbit : x.th.reads.testBit k with
          | false =>
            rw [hbit] at c5
            have HN2 := hidI (show ∀ s, s < k + 1 → (x.th.reads.testBit s && stale tw.locks x.th s) = false from fun s hs => by
              rcases (by omega : s < k ∨ s = k) with h | rfl
              · exact HN.out s h
              · rw [hbit]; rfl)
            clear hbit
            go_wp2_with fail
            exact ⟨⟨k + 1, by omega, by go_num, trivial, HN2⟩, by simp [intOf]; omega⟩
          | true =>
            rw [hbit] at c5
            have HNW3 := hidI (show NwOk n tw.locks { x.th with now := tw.clock + 1 } from HNW.out.same rfl rfl)
            cases hst : stale tw.locks x.th k with
            | false =>
              have HN2 := hidI (show ∀ s, s < k + 1 → (x.th.reads.testBit s && stale tw.locks x.th s) = false from fun s hs => by
                rcases (by omega : s < k ∨ s = k) with h | rfl
                · exact HN.out s h
                · rw [hst, Bool.and_false])
              have HST := hidI (show stale tw.locks { x.th with now := tw.clock + 1 } k = false from hst)
              clear hbit hst
              go_wp2_with fail
              refine (rnewer_any H3.out HX3.out HNW3.out hlt).mono ?_
              rintro e w4 ⟨rfl, rfl⟩
              rw [HST.out]
              go_wp2_with fail
              exact ⟨⟨k + 1, by omega, by go_num, trivial, HN2⟩, by simp [intOf]; omega⟩
            | true =>
              have HST := hidI (show stale tw.locks { x.th with now := tw.clock + 1 } k = true from hst)
              have HR := hidI (HR1.out HW.out k hlt (by rw [hbit, hst]; rfl))
              clear hbit hst
              go_wp2_with fail
              refine (rnewer_any H3.out HX3.out HNW3.out hlt).mono ?_
              rintro e w4 ⟨rfl, rfl⟩
              rw [HST.out]
              go_wp2_with fail
              refine (rabort_any H3.out HX3.out HL.out).mono ?_
              rintro e w5 ⟨rfl, ⟨ts5, ev5, hts⟩, hb⟩
              have HT := hidI hts
              have HB3 := hidI hb
              clear hts hb
              go_wp2_with fail
              go_end0
              rw [HR.out]
              have h5 := HT.out
              simp only [TW.abort, List.set_set] at h5 ⊢
              exact ⟨rfl, ⟨ts5, ev5, h5⟩, HC3.out.trans HB3.out⟩
        · obtain rfl : k = 16 := by omega
          have HR := hidI (HR2.out HW.out HN.out)
          have c7 : wr.cell? ⟨t, n * 53 + 51, none⟩ = some (.int .i64 (tw.clock + 1)) := H3.out.cell HX3.out 51 _ (encRh_51 _)
          go_wp2_with fail
          refine (rtell_any H3.out HL.out ⟨n, 7, tw.clock + 1, 1⟩).mono ?_
          rintro r w4 ⟨rfl, ⟨ev', h1⟩, hc1⟩
          have c8 : w4.cell? ⟨t, n * 53, none⟩ = some (.int .i64 x.th.phase) := h1.cell HX3.out 0 _ rfl
          have f8 := h1.free (n * 53)
          have h2 := h1.poke HX3.out { x with th := { x.th with now := tw.clock + 1, phase := 3 } } rfl rfl (H.out.log n x HX.out).2.2.1 (H.out.log n x HX.out).2.2.2.1 (fun _ => HB0.out) 0 (.int .i64 3) (by decide) rfl
          simp only [List.set_set, Nat.add_zero] at h2
          have H2 := hidI h2
          have HC1 := hidI (hc1.to_below H3.out.base_le H3.out.ev_base)
          clear h1 h2 hc1
          go_wp2_with fail
          go_end0
          rw [HR.out]
          refine ⟨rfl, ⟨_, ev', H2.out⟩, HC3.out.trans (HC1.out.trans ?_)⟩
          exact Chg.to_below (S := fun k => k = t) ((Chg.refl (fun k => k = t) w4).setCell (p := ⟨t, n * 53, none⟩) (.inl rfl) _) (Nat.le_trans H3.out.base_le HC1.out.size) (fun j hj => by rw [hj]; exact H.out.lt)
end Go.Proofs.YtilkpmjkiohfdaaGreatDoor

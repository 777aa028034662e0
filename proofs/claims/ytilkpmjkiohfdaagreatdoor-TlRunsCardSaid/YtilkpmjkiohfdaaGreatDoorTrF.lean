/- The document's Run: read. -/
import Derived.Test.YtilkpmjkiohfdaaGreatDoorTrE
import Derived.Test.YtilkpmjkiohfdaaGreatDoorTlH
namespace Go.Proofs.YtilkpmjkiohfdaaGreatDoor
open Go.RowKit
set_option linter.unusedVariables false
set_option linter.unusedSimpArgs false

variable {w w' : World} {base b m t : Nat} {tw : TW} {ts : List RX} {ev : Value}

set_option maxRecDepth 100000 in
set_option maxHeartbeats 2000000 in
theorem rread_any (h : RtAt w base b m t tw ts ev) {n : Nat} {x : RX} (hx : ts[n]? = some x) {k i : Nat} (hok : ThOk x.th k i) (hph : x.th.phase = 1) (hw : NwOk n tw.locks x.th) (hlen : tw.evs.length < 70000) (a : Nat) (ha : a < tw.mem.length) :
    Calls Tryz.prog 214 #[.pointer (some ⟨b, 0, none⟩), .int .i64 (n : Int), .int .i64 (a : Int)] w (RtDone base b m t (tw.read n x.th a) w) := by
  have c1 := h.wcell 18 _ rfl
  have hn : n < ts.length := (List.getElem?_eq_some_iff.1 hx).1
  obtain ⟨ao, c, hv, hcell⟩ := h.logcell hx
  have hb0 : x.back = 0 := (h.log n x hx).2.2.2.2 (by omega)
  have hlw : x.th.log = x.ws := by have := (h.log n x hx).2.2.1; rw [hb0] at this; exact this
  have hlen64 : x.ws.length ≤ 64 := by rw [← hlw]; exact hok.len
  have c3 : w.cell? ⟨t, n * 53 + 18, none⟩ = some (.slice ao x.ws.length c) := by rw [← hv]; exact h.cell hx 18 _ (encRh_18 x)
  have H := hidI h
  have HX := hidI hx
  have HOK := hidI hok
  have HL := hidI hlen
  have HV := hidI hv
  have HC := hidI hcell
  have HA := hidI ha
  have HW := hidI hw
  have HB0 := hidI hb0
  have HLW := hidI hlw
  have HPH := hidI hph
  have H64 := hidI hlen64
  clear h hx hok hlen hv hcell ha hw hb0 hlw hph hlen64
  go_enter Tryz.func214, Tryz.ntmps214
  go_wp2_with fail
  go_loopw [7] (fun i w' => ∃ k : Nat, k ≤ x.ws.length ∧ i = .int .i64 (k : Int) ∧ Hid (k ≤ place x.ws a) ∧ w' = w) (fun i _ => ((x.ws.length : Int) - intOf i).toNat)
  case atStart => exact ⟨0, by omega, rfl, hidI (Nat.zero_le _), rfl⟩
  case round =>
    obtain ⟨k, hk, rfl, HP, rfl⟩ := hrel
    by_cases hlt : k < x.ws.length
    · obtain ⟨g, o, rfl, _, hcs⟩ := HC.out (by omega)
      obtain ⟨e, he⟩ := some_at hlt
      obtain ⟨d1, d2⟩ := hcs k e he
      have HE := hidI he
      clear hcs he
      have h64 : k ≤ 64 := by have := H64.out; omega
      by_cases ha : e.1 = (a : Int)
      · have hpl := place_le HE.out ha
        have HR := hidI (show tw.read n x.th a = { tw with evs := tw.evs ++ [⟨n, 2, a, e.2⟩] } from by
          have h1 : k = place x.ws a := by have := HP.out; omega
          have h2 := HE.out
          unfold TW.read
          rw [HLW.out, ← h1, h2])
        have hb : (e.1 == (a : Int)) = true := by simpa using ha
        clear ha hpl
        go_wp2_with fail
        refine (rtell_any H.out HL.out ⟨n, 2, a, e.2⟩).mono ?_
        rintro r w2 ⟨rfl, ⟨ev', h1⟩, hc1⟩
        have H1 := hidI h1
        have HC1 := hidI hc1
        clear h1 hc1
        go_wp2_with fail
        go_end0
        rw [HR.out]
        exact ⟨rfl, ⟨ts, ev', H1.out⟩, HC1.out.to_below H.out.base_le H.out.ev_base⟩
      · have hb : (e.1 == (a : Int)) = false := by simpa using ha
        have HN := hidI (show k + 1 ≤ place x.ws a from by
          have := HP.out
          rcases Nat.lt_or_ge k (place x.ws a) with h | h
          · exact h
          · exfalso
            have hkp : k = place x.ws a := by omega
            obtain ⟨c', h1, h2⟩ := place_at (l := x.ws) (a := a) (by omega)
            rw [← hkp, HE.out] at h1
            cases h1
            exact ha h2)
        clear ha d2
        go_wp2_with fail
        exact ⟨⟨k + 1, by omega, by go_num, HN, trivial⟩, by simp [intOf]; omega⟩
    · obtain rfl : k = x.ws.length := by omega
      have hpl : x.th.log[place x.th.log a]? = none := List.getElem?_eq_none (by rw [HLW.out]; exact HP.out)
      go_wp2_with fail
      refine (rstripe_any _).mono ?_
      rintro r w2 ⟨rfl, rfl⟩
      go_wp2_with fail
      refine (rnewer_any H.out HX.out HW.out (stripeN_lt _)).mono ?_
      rintro r w3 ⟨rfl, rfl⟩
      cases hst : stale tw.locks x.th (stripeN a) with
      | true =>
        have HR := hidI (show tw.read n x.th a = tw.abort n x.th from by unfold TW.read; rw [hpl]; simp only [hst, if_true])
        clear hst hpl
        go_wp2_with fail
        refine (rabort_any H.out HX.out HL.out).mono ?_
        rintro r w4 ⟨rfl, hts, hb⟩
        have HT := hidI hts
        have HB := hidI hb
        clear hts hb
        go_wp2_with fail
        go_end0
        rw [HR.out]
        exact ⟨rfl, HT.out, HB.out⟩
      | false =>
        have HR := hidI (show tw.read n x.th a = { tw with ths := tw.ths.set n { x.th with reads := x.th.reads ||| 1 <<< stripeN a }, evs := tw.evs ++ [⟨n, 2, a, tw.mem.getD a 0⟩] } from by
          unfold TW.read; rw [hpl]; simp only [hst, Bool.false_eq_true, if_false, Int.toNat_natCast])
        have hs := stripeN_lt a
        generalize stripeN a = s at *
        have f2 := H.out.free (n * 53 + 2 + s)
        have c2 : w3.cell? ⟨t, n * 53 + 2 + s, none⟩ = some (.bool (x.th.reads.testBit s)) := by rw [Nat.add_assoc]; exact H.out.cell HX.out _ _ (encRh_read x hs)
        have h1 := H.out.poke HX.out { x with th := { x.th with reads := x.th.reads ||| 1 <<< s } } rfl rfl (H.out.log n x HX.out).2.2.1 (H.out.log n x HX.out).2.2.2.1 (H.out.log n x HX.out).2.2.2.2 (2 + s) (.bool true) (by omega) (encRh_reads x hs)
        rw [← Nat.add_assoc] at h1
        have c3 := h1.wcell 0 _ rfl
        have c4 : (w3.setCell ⟨t, n * 53 + 2 + s, none⟩ (.bool true)).cell? ⟨m, a, none⟩ = some (.int .i64 (tw.mem.getD a 0)) := h1.memcell HA.out
        generalize tw.mem.getD a 0 = mv at c4 HR
        have h5 := HA.out
        have H1 := hidI h1
        clear h1 hst hpl
        simp only at c3
        go_wp2_with fail
        refine (rtell_any H1.out HL.out ⟨n, 2, a, mv⟩).mono ?_
        rintro r w4 ⟨rfl, ⟨ev', h2⟩, hc2⟩
        have H2 := hidI h2
        have HC2 := hidI hc2
        clear h2 hc2
        go_wp2_with fail
        go_end0
        rw [HR.out]
        refine ⟨rfl, ⟨_, ev', H2.out⟩, ?_⟩
        refine Chg.below ?_ H1.out.base_le HC2.out H1.out.ev_base
        exact Chg.below (S := fun k => k = t) (Below.refl base w3) H.out.base_le ((Chg.refl (fun k => k = t) w3).setCell (p := ⟨t, n * 53 + 2 + s, none⟩) (.inl rfl) _) (fun k hk => by rw [hk]; exact H.out.lt)
end Go.Proofs.YtilkpmjkiohfdaaGreatDoor

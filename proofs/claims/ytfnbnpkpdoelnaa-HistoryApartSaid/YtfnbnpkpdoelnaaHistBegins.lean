/- The walk of HistoryBegins. -/
import Derived.Test.YtfnbnpkpdoelnaaHistH
import Derived.Deep.CutRange
import Derived.Deep.RegionHeld
namespace Go.Proofs.Ytfnbnpkpdoelnaa
open Go.RowKit

theorem run_take {l : List Ev} {m : Nat} {s : HS} (h : runH l 0 HS.init = .inl s) : ∃ s1, runH (l.take m) 0 HS.init = .inl s1 ∧ Later (min m l.length) s1 s ∧ HOk s1 (min m l.length) := by
  have h' := h
  rw [← List.take_append_drop m l, runH_append] at h'
  cases h1 : runH (l.take m) 0 HS.init with
  | inr k => rw [h1] at h'; cases h'
  | inl s1 =>
    rw [h1] at h'
    simp only [List.length_take, Nat.zero_add] at h'
    have hok := HOk.run _ HOk.init h1
    simp only [List.length_take, Nat.zero_add] at hok
    exact ⟨s1, rfl, Later.run _ (Later.refl _ s1) hok (Nat.le_refl _) h', hok⟩

theorem RdT.takeN {w : World} {ao : Option Addr} {cap : Nat} {l : List Ev} (h : RdT encEv w 4 (.slice ao l.length cap) l) (m : Nat) (hm : m ≤ l.length) : RdT encEv w 4 (.slice ao m cap) (l.take m) := by
  obtain ⟨h1, ao', cap', hv, h2, h3⟩ := h
  simp only [Value.slice.injEq] at hv
  obtain ⟨rfl, -, rfl⟩ := hv
  refine ⟨flat_len encEv_len _, ao, cap, by rw [List.length_take, Nat.min_eq_left hm], by simp; omega, fun hn => ?_⟩
  obtain ⟨b, off, rfl, hb, hc⟩ := h3 (by simp at hn; omega)
  refine ⟨b, off, rfl, hb, fun j u hj => hc j u ?_⟩
  have hlt := (List.getElem?_eq_some_iff.1 hj).1
  have e : l.flatMap encEv = (l.take m).flatMap encEv ++ (l.drop m).flatMap encEv := by rw [← List.flatMap_append, List.take_append_drop]
  rw [e, List.getElem?_append_left hlt]
  exact hj

set_option maxRecDepth 100000 in
set_option maxHeartbeats 8000000 in
theorem begins_any {w : World} {ao : Option Addr} {cap : Nat} {l : List Ev} (h : RdT encEv w 4 (.slice ao l.length cap) l) (z : Int) (hl : l.length < 2 ^ 62) :
    Calls Try.prog 3 #[.slice ao l.length cap, .int .i64 z] w fun e w' => e = .returned (.bool true) ∧ Below w.heap.size w w' := by
  have HRD := hidI h
  have hcap : l.length ≤ cap := by obtain ⟨_, _, _, hv, h2, _⟩ := h; simp only [Value.slice.injEq] at hv; omega
  clear h
  go_enter Try.func3, Try.ntmps3
  go_wp2_with fail
  refine (beyond1 l.length (block_new w _) hl).mono ?_
  rintro e w1 ⟨rfl, hb1⟩
  have HB1 := hidI (bel2 hb1)
  clear hb1
  have fin : ∀ {w2 w3 : World}, Below w.heap.size w w2 → Below w2.heap.size w2 w3 → Below w.heap.size w w3 := fun h1 h2 => h1.trans (h2.mono h1.size)
  have fin' : ∀ {w2 w3 w4 : World}, Below w2.heap.size w2 w3 → Below w3.heap.size w3 w4 → Below w2.heap.size w2 w4 := fun h1 h2 => h1.trans (h2.mono h1.size)
  by_cases hB : 262144 < l.length
  · have eB : decide (262144 < l.length) = true := by simpa using hB
    rw [eB]
    go_wp2_with fail
    refine (alive_any _).mono ?_
    rintro e w2 ⟨rfl, hb2⟩
    have HB2 := hidI hb2
    clear hb2
    go_wp2_with fail
    go_ret
    exact ⟨rfl, fin HB1.out HB2.out⟩
  have eB : decide (262144 < l.length) = false := by simp; omega
  rw [eB]
  by_cases hz : z < 0
  · go_wp2_with fail
    refine (alive_any _).mono ?_
    rintro e w2 ⟨rfl, hb2⟩
    have HB2 := hidI hb2
    clear hb2
    go_wp2_with fail
    go_ret
    exact ⟨rfl, fin HB1.out HB2.out⟩
  obtain ⟨m, rfl⟩ : ∃ m : Nat, z = (m : Int) := ⟨z.toNat, by omega⟩
  by_cases hm : l.length < m
  · go_wp2_with fail
    refine (alive_any _).mono ?_
    rintro e w2 ⟨rfl, hb2⟩
    have HB2 := hidI hb2
    clear hb2
    go_wp2_with fail
    go_ret
    exact ⟨rfl, fin HB1.out HB2.out⟩
  have hmn : ¬ (m : Int) < 0 := by omega
  have hmd : decide ((m : Int) < 0) = false := decide_eq_false hmn
  have hml : m ≤ l.length := by omega
  have hmc : m ≤ cap := by omega
  go_wp2_with fail
  refine (of_any (Rd.below HRD.out HB1.out) (by omega)).mono ?_
  intro e w2 hp
  unfold OfPost at hp
  cases hr : runH l 0 HS.init with
  | inr k =>
    rw [hr] at hp
    obtain ⟨rfl, hb2⟩ := hp
    have HB2 := hidI (fin HB1.out hb2)
    have HR := hidI hr
    clear hb2 hr
    go_wp2_with fail
    refine (of_any (RdT.takeN (Rd.below HRD.out HB2.out) m hml) (by simp; omega)).mono ?_
    intro e w3 hp
    unfold OfPost at hp
    obtain ⟨-, hkl, hk3⟩ := runH_fail l 0 HS.init k HR.out
    obtain ⟨hk4, hk5⟩ := hk3 m
    by_cases hmk : m ≤ k
    · obtain ⟨s1, hs1⟩ := hk4 (by omega)
      rw [hs1] at hp
      obtain ⟨ao1, cp1, ps1, -, rfl, -, -, hb3⟩ := hp
      have HB3 := hidI (fin HB2.out hb3)
      clear hb3 hk3 hk4 hk5 hs1
      go_wp2_with fail
      refine (alive_any _).mono ?_
      rintro e w4 ⟨rfl, hb4⟩
      have HB4 := hidI hb4
      clear hb4
      go_wp2_with fail
      go_ret
      exact ⟨rfl, fin HB3.out HB4.out⟩
    · rw [hk5 (by omega)] at hp
      obtain ⟨rfl, hb3⟩ := hp
      have HB3 := hidI (fin HB2.out hb3)
      clear hb3 hk3 hk4 hk5
      go_wp2_with fail
      refine (alive_any _).mono ?_
      rintro e w4 ⟨rfl, hb4⟩
      have HB4 := hidI hb4
      clear hb4
      go_wp2_with fail
      go_ret
      exact ⟨rfl, fin HB3.out HB4.out⟩
  | inl s =>
    rw [hr] at hp
    obtain ⟨ao2, cp2, ps2, hps2, rfl, hrow2, hev2, hb2⟩ := hp
    obtain ⟨s1, hs1, hlat, hok1⟩ := run_take (m := m) hr
    rw [Nat.min_eq_left hml] at hlat hok1
    have HB2 := hidI (fin HB1.out hb2)
    have HB2' := hidI hb2
    have HRUN := hidI hr
    have HS1 := hidI hs1
    have HLAT := hidI hlat
    have HOK1 := hidI hok1
    have HPS2 := hidI hps2
    have HROW2 := hidI hrow2
    have HEV2 := hidI hev2
    clear hb2 hr hs1 hlat hok1 hps2 hrow2 hev2
    go_wp2_with fail
    refine (of_any (RdT.takeN (Rd.below HRD.out HB2.out) m hml) (by simp; omega)).mono ?_
    intro e w3 hp
    unfold OfPost at hp
    rw [HS1.out] at hp
    obtain ⟨ao1, cp1, ps1, hps1, rfl, hrow1, hev1, hb3⟩ := hp
    have hlen : ps1.length ≤ ps2.length := by
      have h1 := HLAT.out.len
      rw [← hps1, ← HPS2.out] at h1
      simpa using h1
    have HB3 := hidI (fin HB2.out hb3)
    have HB3' := hidI hb3
    have HPS1 := hidI hps1
    have HROW1 := hidI hrow1
    have HEV1 := hidI hev1
    clear hb3 hps1 hrow1 hev1
    have hl2 : ps2.length ≤ 262144 := by
      have h1 := atts_run _ HRUN.out
      have h2 := congrArg List.length HPS2.out
      simp [HS.init] at h1 h2
      omega
    have hld : decide (ps2.length < ps1.length) = false := decide_eq_false (by omega)
    go_wp2_with fail
    go_loopw [11] (fun i wr => ∃ k : Nat, k ≤ ps1.length ∧ i = .int .i64 (k : Int) ∧ Below w3.heap.size w3 wr) (fun i _ => ((ps1.length : Int) - intOf i).toNat)
    case atStart => exact ⟨0, Nat.zero_le _, rfl, Below.refl _ _⟩
    case round =>
      obtain ⟨k, hk, rfl, hbr⟩ := hrel
      have HBR := hidI hbr
      clear hbr
      by_cases hkl : k < ps1.length
      · obtain ⟨⟨a, dv1⟩, hp1⟩ := some_at hkl
        obtain ⟨⟨b, dv2⟩, hp2⟩ := some_at (l := ps2) (k := k) (by omega)
        have ha : s1.atts[k]? = some a := by rw [← HPS1.out]; simp [hp1]
        have hb : s.atts[k]? = some b := by rw [← HPS2.out]; simp [hp2]
        have ed1 := (HEV1.out _ (List.mem_of_getElem? hp1))
        have ed2 := (HEV2.out _ (List.mem_of_getElem? hp2))
        simp only at ed1 ed2
        obtain ⟨ad1, cd1, rfl⟩ := ownsRow_shape ed1
        obtain ⟨ad2, cd2, rfl⟩ := ownsRow_shape ed2
        have HD1 : Hid (RdT encEv wr 4 _ a.done) := hidI (Rd.below (Rd.of_own ed1) HBR.out)
        have HD2 : Hid (RdT encEv wr 4 _ b.done) := hidI (Rd.below (Rd.below (Rd.of_own ed2) HB3'.out) HBR.out)
        obtain ⟨g1, o1, rfl, hg1, hc1⟩ := RdT.at (enc := enc2) enc2_len (Rd.below (Rd.of_own HROW1.out) HBR.out) hp1
        obtain ⟨g2, o2, rfl, hg2, hc2⟩ := RdT.at (enc := enc2) enc2_len (Rd.below (Rd.below (Rd.of_own HROW2.out) HB3'.out) HBR.out) hp2
        have x0 := hc1 0 _ rfl
        have x1 := hc1 1 _ rfl
        have x2 := hc1 2 _ rfl
        have x3 := hc1 3 _ rfl
        have x4 := hc1 4 _ rfl
        have x5 := hc1 5 _ rfl
        have x6 := hc1 6 _ rfl
        have x7 := hc1 7 _ rfl
        have y0 := hc2 0 _ rfl
        have y1 := hc2 1 _ rfl
        have y2 := hc2 2 _ rfl
        have y3 := hc2 3 _ rfl
        have y4 := hc2 4 _ rfl
        have y5 := hc2 5 _ rfl
        have y6 := hc2 6 _ rfl
        have y7 := hc2 7 _ rfl
        simp only [Nat.add_zero] at x0 y0
        obtain ⟨b', hb', ho1, ho2⟩ := HLAT.out.old k a ha
        rw [hb] at hb'
        simp only [Option.some.injEq] at hb'
        subst hb'
        have HO1 := hidI ho1
        have HO2 := hidI ho2
        clear ho1 ho2
        have HA := hidI (HOK1.out.att k a ha)
        have HDN := hidI (show a.done.length ≤ 262144 from by have h1 := done_le ha (Nat.le_refl _); have h2 := total_le _ HS1.out; simp only [List.length_take] at h2; omega)
        have HPB := hidI hb
        have hk2 : k < ps2.length := by omega
        clear hc1 hc2 hp1 hp2 ha hb ed1 ed2 hg1 hg2
        go_upto_region 14 with fail
        go_cut [12, 13] from 82 to 167 (fun v12 v13 wx => ∃ q1 q2, v12 = .pointer (some ⟨q1, 0, none⟩) ∧ v13 = .pointer (some ⟨q2, 0, none⟩) ∧ wx.heap[q1]? = some (.cells (encAtt a (.slice ad1 a.done.length cd1)).toArray 31 (0, 0)) ∧
          wx.heap[q2]? = some (.cells (encAtt b (.slice ad2 b.done.length cd2)).toArray 31 (0, 0)) ∧ Below wr.heap.size wr wx)
        case first =>
          go_region_held (fun w' => w'.cell? ⟨g1, o1 + k * 8, none⟩ = some (.int .i64 a.th) ∧ w'.cell? ⟨g1, o1 + k * 8 + 1, none⟩ = some (.int .u8 a.kind) ∧ w'.cell? ⟨g1, o1 + k * 8 + 2, none⟩ = some (.int .i64 a.beg) ∧ w'.cell? ⟨g1, o1 + k * 8 + 3, none⟩ = some (.int .i64 a.fin) ∧ w'.cell? ⟨g1, o1 + k * 8 + 4, none⟩ = some (.int .i64 a.clock) ∧ w'.cell? ⟨g1, o1 + k * 8 + 5, none⟩ = some (.int .i64 a.place) ∧ w'.cell? ⟨g1, o1 + k * 8 + 6, none⟩ = some (.bool a.writer) ∧ w'.cell? ⟨g1, o1 + k * 8 + 7, none⟩ = some (.slice ad1 a.done.length cd1) ∧ w'.cell? ⟨g2, o2 + k * 8, none⟩ = some (.int .i64 b.th) ∧ w'.cell? ⟨g2, o2 + k * 8 + 1, none⟩ = some (.int .u8 b.kind) ∧ w'.cell? ⟨g2, o2 + k * 8 + 2, none⟩ = some (.int .i64 b.beg) ∧ w'.cell? ⟨g2, o2 + k * 8 + 3, none⟩ = some (.int .i64 b.fin) ∧ w'.cell? ⟨g2, o2 + k * 8 + 4, none⟩ = some (.int .i64 b.clock) ∧ w'.cell? ⟨g2, o2 + k * 8 + 5, none⟩ = some (.int .i64 b.place) ∧ w'.cell? ⟨g2, o2 + k * 8 + 6, none⟩ = some (.bool b.writer) ∧ w'.cell? ⟨g2, o2 + k * 8 + 7, none⟩ = some (.slice ad2 b.done.length cd2)) (go_keep) (fail)
          all_goals go_wp2_with fail
          all_goals go_meet
          · exact ⟨_, _, rfl, rfl, block_alloc (block_new _ _), block_new2 _ _ _, (((Below.refl _ _).alloc (Nat.le_refl _) _).alloc (by simp) _).drew⟩
          · exact ⟨_, _, rfl, rfl, block_new2 _ _ _, block_alloc (block_new _ _), (((Below.refl _ _).alloc (Nat.le_refl _) _).alloc (by simp) _).drew⟩
        case rest =>
          obtain ⟨q1, q2, rfl, rfl, hq1, hq2, hbc⟩ := hcut
          have HBC := hidI hbc
          have HD1' := hidI (Rd.below HD1.out hbc)
          have HD2' := hidI (Rd.below HD2.out hbc)
          clear x0 x1 x2 x3 x4 x5 x6 x7 y0 y1 y2 y3 y4 y5 y6 y7 hbc
          by_cases hf : a.fin = -1
          · obtain ⟨e1, e2, e3, hf2, d, e4⟩ := HO2.out hf
            obtain ⟨h1, h2, h3, h4, h5, h6⟩ := HA.out
            obtain ⟨-, f2, f3, f4, -⟩ : a.fin = -1 ∧ a.kind = 0 ∧ a.place = 0 ∧ a.writer = false ∧ s1.opn a.th.toNat = some k := by
              rcases h6 with h6 | ⟨h6, _⟩
              · exact h6
              · exfalso; omega
            obtain ⟨ath, akind, abeg, afin, aclock, aplace, awriter, adone⟩ := a
            obtain ⟨bth, bkind, bbeg, bfin, bclock, bplace, bwriter, bdone⟩ := b
            simp only at e1 e2 e3 hf2 e4 f2 f3 f4 hf
            subst e1 e2 e3 f2 f3 f4 hf
            have hdl : adone.length ≤ bdone.length := by rw [e4]; simp
            have hcd : adone.length ≤ cd2 := by
              obtain ⟨_, _, _, hv, hc, _⟩ := HD2.out
              simp only [Value.slice.injEq] at hv
              obtain ⟨-, -, hv⟩ := hv
              rw [hv]
              exact Nat.le_trans hdl hc
            have HT : Hid (RdT encEv wc 4 (.slice ad2 adone.length cd2) adone) := by
              have h := RdT.takeN HD2'.out adone.length hdl
              rw [show bdone.take adone.length = adone from by rw [e4]; simp] at h
              exact hidI h
            clear h1 h2 h3 h4 h5 h6 e4
            have X0 : ∀ t, (ext wc t).cell? ⟨q1, 0, none⟩ = some (.int .i64 bth) := fun t => cell_of_block (ext_block hq1 t) rfl
            have X1 : ∀ t, (ext wc t).cell? ⟨q1, 1, none⟩ = some (.int .u8 0) := fun t => cell_of_block (ext_block hq1 t) rfl
            have X2 : ∀ t, (ext wc t).cell? ⟨q1, 2, none⟩ = some (.int .i64 bbeg) := fun t => cell_of_block (ext_block hq1 t) rfl
            have X3 : ∀ t, (ext wc t).cell? ⟨q1, 3, none⟩ = some (.int .i64 (-1)) := fun t => cell_of_block (ext_block hq1 t) rfl
            have X4 : ∀ t, (ext wc t).cell? ⟨q1, 4, none⟩ = some (.int .i64 bclock) := fun t => cell_of_block (ext_block hq1 t) rfl
            have X5 : ∀ t, (ext wc t).cell? ⟨q1, 5, none⟩ = some (.int .i64 0) := fun t => cell_of_block (ext_block hq1 t) rfl
            have X6 : ∀ t, (ext wc t).cell? ⟨q1, 6, none⟩ = some (.bool false) := fun t => cell_of_block (ext_block hq1 t) rfl
            have X7 : ∀ t, (ext wc t).cell? ⟨q1, 7, none⟩ = some (.slice ad1 adone.length cd1) := fun t => cell_of_block (ext_block hq1 t) rfl
            have Y0 : ∀ t, (ext wc t).cell? ⟨q2, 0, none⟩ = some (.int .i64 bth) := fun t => cell_of_block (ext_block hq2 t) rfl
            have Y1 : ∀ t, (ext wc t).cell? ⟨q2, 1, none⟩ = some (.int .u8 bkind) := fun t => cell_of_block (ext_block hq2 t) rfl
            have Y2 : ∀ t, (ext wc t).cell? ⟨q2, 2, none⟩ = some (.int .i64 bbeg) := fun t => cell_of_block (ext_block hq2 t) rfl
            have Y3 : ∀ t, (ext wc t).cell? ⟨q2, 3, none⟩ = some (.int .i64 bfin) := fun t => cell_of_block (ext_block hq2 t) rfl
            have Y4 : ∀ t, (ext wc t).cell? ⟨q2, 4, none⟩ = some (.int .i64 bclock) := fun t => cell_of_block (ext_block hq2 t) rfl
            have Y5 : ∀ t, (ext wc t).cell? ⟨q2, 5, none⟩ = some (.int .i64 bplace) := fun t => cell_of_block (ext_block hq2 t) rfl
            have Y6 : ∀ t, (ext wc t).cell? ⟨q2, 6, none⟩ = some (.bool bwriter) := fun t => cell_of_block (ext_block hq2 t) rfl
            have Y7 : ∀ t, (ext wc t).cell? ⟨q2, 7, none⟩ = some (.slice ad2 bdone.length cd2) := fun t => cell_of_block (ext_block hq2 t) rfl
            have y3 : wc.cell? ⟨q2, 3, none⟩ = some (.int .i64 bfin) := cell_of_block hq2 rfl
            have hln : ¬ adone.length > bdone.length := by omega
            have hdn2 : adone.length ≤ 262144 := HDN.out
            clear hq1 hq2
            rcases hf2 with hf2 | hf2
            · subst hf2
              have hm1 : ¬ (-1 : Int) ≥ (m : Int) := by omega
              go_wp2_with fail
              refine wp_region_grow (by kernel_rfl) (by kernel_rfl) ?_
              repeat (go_big_quiet_step ((first
                | (go_at_call 8; exact grow_of (sameEvents_true (Rd.below HD1'.out (ext_below wc _)) (Rd.below HT.out (ext_below wc _)) (by omega))))))
              refine wpQuiet_nil ?_
              intro w' hb
              have HB5 := hidI (fin' HBR.out (fin' HBC.out hb))
              clear hb
              go_wp2_with fail
              exact ⟨⟨k + 1, by omega, by go_num, HB5.out⟩, by simp [intOf]; omega⟩
            · have hm1 : bfin ≥ (m : Int) := hf2
              go_wp2_with fail
              refine wp_region_grow (by kernel_rfl) (by kernel_rfl) ?_
              repeat (go_big_quiet_step ((first
                | (go_at_call 8; exact grow_of (sameEvents_true (Rd.below HD1'.out (ext_below wc _)) (Rd.below HT.out (ext_below wc _)) (by omega))))))
              refine wpQuiet_nil ?_
              intro w' hb
              have HB5 := hidI (fin' HBR.out (fin' HBC.out hb))
              clear hb
              go_wp2_with fail
              exact ⟨⟨k + 1, by omega, by go_num, HB5.out⟩, by simp [intOf]; omega⟩
          · have hba := HO1.out hf
            subst hba
            obtain ⟨h1, h2, h3, h4, h5, h6⟩ := HA.out
            have h7 : ¬ b.fin ≥ (m : Int) ∧ ¬ b.fin < 0 := by
              rcases h6 with ⟨h6, _⟩ | ⟨h6, h7, _⟩
              · exact absurd h6 hf
              · omega
            obtain ⟨h7, h8⟩ := h7
            have x0 : wc.cell? ⟨q1, 0, none⟩ = some (.int .i64 b.th) := cell_of_block hq1 rfl
            have y0 : wc.cell? ⟨q2, 0, none⟩ = some (.int .i64 b.th) := cell_of_block hq2 rfl
            have x1 : wc.cell? ⟨q1, 1, none⟩ = some (.int .u8 b.kind) := cell_of_block hq1 rfl
            have y1 : wc.cell? ⟨q2, 1, none⟩ = some (.int .u8 b.kind) := cell_of_block hq2 rfl
            have x2 : wc.cell? ⟨q1, 2, none⟩ = some (.int .i64 b.beg) := cell_of_block hq1 rfl
            have y2 : wc.cell? ⟨q2, 2, none⟩ = some (.int .i64 b.beg) := cell_of_block hq2 rfl
            have x3 : wc.cell? ⟨q1, 3, none⟩ = some (.int .i64 b.fin) := cell_of_block hq1 rfl
            have y3 : wc.cell? ⟨q2, 3, none⟩ = some (.int .i64 b.fin) := cell_of_block hq2 rfl
            have x4 : wc.cell? ⟨q1, 4, none⟩ = some (.int .i64 b.clock) := cell_of_block hq1 rfl
            have y4 : wc.cell? ⟨q2, 4, none⟩ = some (.int .i64 b.clock) := cell_of_block hq2 rfl
            have x5 : wc.cell? ⟨q1, 5, none⟩ = some (.int .i64 b.place) := cell_of_block hq1 rfl
            have y5 : wc.cell? ⟨q2, 5, none⟩ = some (.int .i64 b.place) := cell_of_block hq2 rfl
            have x6 : wc.cell? ⟨q1, 6, none⟩ = some (.bool b.writer) := cell_of_block hq1 rfl
            have y6 : wc.cell? ⟨q2, 6, none⟩ = some (.bool b.writer) := cell_of_block hq2 rfl
            have x7 : wc.cell? ⟨q1, 7, none⟩ = some (.slice ad1 b.done.length cd1) := cell_of_block hq1 rfl
            have y7 : wc.cell? ⟨q2, 7, none⟩ = some (.slice ad2 b.done.length cd2) := cell_of_block hq2 rfl
            clear hq1 hq2 h1 h2 h3 h4 h5 h6
            go_wp2_with fail
            refine (sameAttempt_true b HD1'.out HD2'.out (by have := HDN.out; omega)).mono ?_
            rintro e w5 ⟨rfl, hb5⟩
            have HB5 := hidI (fin' HBR.out (fin' HBC.out hb5))
            clear hb5
            go_wp2_with fail
            exact ⟨⟨k + 1, by omega, by go_num, HB5.out⟩, by simp [intOf]; omega⟩
      · obtain rfl : k = ps1.length := by omega
        by_cases hee : ps1.length = ps2.length
        · go_wp2_with fail
          refine (alive_any _).mono ?_
          rintro e w4 ⟨rfl, hb4⟩
          have HB4 := hidI (fin HB3.out (fin' HBR.out hb4))
          clear hb4
          go_wp2_with fail
          go_ret
          exact ⟨rfl, HB4.out⟩
        · obtain ⟨⟨b, dv2⟩, hp2⟩ := some_at (l := ps2) (k := ps1.length) (by omega)
          have hb : s.atts[ps1.length]? = some b := by rw [← HPS2.out]; simp [hp2]
          have hnew := HLAT.out.new ps1.length b (by rw [← HPS1.out]; simp) hb
          obtain ⟨g2, o2, rfl, hg2, hc2⟩ := RdT.at (enc := enc2) enc2_len (Rd.below (Rd.below (Rd.of_own HROW2.out) HB3'.out) HBR.out) hp2
          have y2 := hc2 2 _ rfl
          clear hc2 hp2 hb hg2
          go_wp2_with fail
          refine (alive_any _).mono ?_
          rintro e w4 ⟨rfl, hb4⟩
          have HB4 := hidI (fin HB3.out (fin' HBR.out hb4))
          clear hb4
          go_wp2_with fail
          go_ret
          exact ⟨rfl, HB4.out⟩
end Go.Proofs.Ytfnbnpkpdoelnaa

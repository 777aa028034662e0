/- turnstilelaw20: pair.looked, over a machine of the program and one of the document's that stand alike. (Written by mklooked.py.) -/
import Derived.Test.YthmmbldhbdnfpaaGreatDoorDuo
import Derived.Test.YthmmbldhbdnfpaaGreatDoorMBase
namespace Go.Proofs.YthmmbldhbdnfpaaGreatDoor
open Go.RowKit
set_option linter.unusedVariables false
set_option linter.unusedSimpArgs false

variable {w w' : World} {base b base2 c N : Nat} {own rown : Nat → Nat} {mm : MM} {xs : List TX} {ys : List RX} {mv tv ev mv2 tv2 ev2 : Value}

set_option maxHeartbeats 1000000 in
theorem register_out {tb cap n : Nat} {x : TX} (h : MAt w base b own mm xs mv (.slice (some ⟨tb, 0, none⟩) xs.length cap) ev) (hx : xs[n]? = some x) {r : Int} (hr : r < 0 ∨ 8 ≤ r) :
    Calls Tryz.prog 44 #[.pointer (some ⟨b, 0, none⟩), .int .i64 (n : Int), .int .i64 r] w fun e w' => e = .returned (.tuple #[.int .i64 0, .bool false]) ∧ w' = w := by
  have H := hidI h
  have HX := hidI hx
  clear h hx
  rcases hr with hr | hr
  · go_enter Tryz.func44, Tryz.ntmps44
    go_wp2_with fail
    refine (of_yes H.out HX.out).mono ?_
    rintro e w1 ⟨rfl, rfl⟩
    go_wp2_with fail
    go_ret2
    exact ⟨rfl, rfl⟩
  · have hr0 : ¬ r < 0 := by omega
    go_enter Tryz.func44, Tryz.ntmps44
    go_wp2_with fail
    refine (of_yes H.out HX.out).mono ?_
    rintro e w1 ⟨rfl, rfl⟩
    go_wp2_with fail
    go_ret2
    exact ⟨rfl, rfl⟩

theorem word_out (h : MAt w base b own mm xs mv tv ev) (hl : mm.mem.length ≤ 262144) {z : Int} (hz : z < 0 ∨ (mm.mem.length : Int) ≤ z) :
    Calls Tryz.prog 45 #[.pointer (some ⟨b, 0, none⟩), .int .i64 z] w fun r w' => r = .returned (.tuple #[.int .i64 0, .bool false]) ∧ w' = w := by
  have := word_any h hl z
  have hh : mm.has z = false := by unfold MM.has; simp; omega
  rw [hh, if_neg (by simp)] at this
  exact this
theorem word_in (h : MAt w base b own mm xs mv tv ev) (hl : mm.mem.length ≤ 262144) {n : Nat} (hn : n < mm.mem.length) {M0 : Int} (hM : mm.mem.getD n 0 = M0) :
    Calls Tryz.prog 45 #[.pointer (some ⟨b, 0, none⟩), .int .i64 (n : Int)] w fun r w' => r = .returned (.tuple #[.int .i64 M0, .bool true]) ∧ w' = w := by
  have := word_any h hl (n : Int)
  have hh : mm.has (n : Int) = true := by unfold MM.has; simp; omega
  rw [hh, if_pos rfl, show mm.at (n : Int) = M0 from hM] at this
  exact this
theorem rths_len2 (h : RAt w base b own mm ys mv tv ev) : mm.ths.length = ys.length := by rw [h.same]; simp

set_option maxRecDepth 100000 in
set_option maxHeartbeats 2000000 in
theorem looked_no_neg (h : MAt w base b own mm xs mv tv ev) (hr : RAt w base2 c rown mm ys mv2 tv2 ev2) (hk : MOk N mm) {y : Int} (hy : y < 0) {z : Int} (hz : z < 0 ∨ (mm.ths.length : Int) ≤ z) :
    Calls Tryz.prog 19 #[.agg #[.pointer (some ⟨b, 0, none⟩), .pointer (some ⟨c, 0, none⟩)], .int .i64 z, .int .i64 y] w fun e w' => e = .returned (.bool true) ∧ Below w.heap.size w w' := by
  have hxl := ths_len h.same
  have hyl := rths_len2 hr
  rw [hxl] at hz
  have hzy : (z < 0) ∨ (¬ z < 0 ∧ (ys.length : Int) ≤ z) := by omega
  have HZ := hidI hz
  have hb0 : Below w.heap.size w (w.alloc (.cells #[.pointer (some ⟨b, 0, none⟩), .pointer (some ⟨c, 0, none⟩)] 46)) := (Below.refl _ _).alloc (Nat.le_refl _) _
  have HA := hidI (h.below hb0)
  have HR := hidI (hr.below hb0)
  have HB := hidI hb0
  have HK := hidI hk
  obtain ⟨mo, mc, hmv⟩ := ownsRow_shape hr.mem
  subst hmv
  have HY := hidI hy
  have hy0 : ¬ 0 ≤ y := by omega
  obtain ⟨yo, yc, hyv⟩ := ownsRow_shape hr.ths
  subst hyv
  have c0 := HR.out.wcell 0 _ rfl
  have c1 := HR.out.wcell 1 _ rfl
  clear h hr hk hb0 hz hxl hyl hy
  rcases hzy with hz | ⟨hz, hz2⟩
  · go_enter Tryz.func19, Tryz.ntmps19
    go_wp2_with fail
    refine (word_out HA.out HK.out.mem.2 (.inl HY.out)).mono ?_
    rintro e w1 ⟨rfl, rfl⟩
    go_wp2_with fail
    refine (register_no HA.out _ HZ.out).mono ?_
    rintro e w1 ⟨rfl, rfl⟩
    go_wp2_with fail
    refine (at_no HA.out HZ.out).mono ?_
    rintro e w1 ⟨rfl, rfl⟩
    go_wp2_with fail
    refine (waiting_no HA.out HZ.out).mono ?_
    rintro e w1 ⟨rfl, rfl⟩
    go_wp2_with fail
    go_ret
    exact ⟨rfl, HB.out⟩
  · go_enter Tryz.func19, Tryz.ntmps19
    go_wp2_with fail
    refine (word_out HA.out HK.out.mem.2 (.inl HY.out)).mono ?_
    rintro e w1 ⟨rfl, rfl⟩
    go_wp2_with fail
    refine (register_no HA.out _ HZ.out).mono ?_
    rintro e w1 ⟨rfl, rfl⟩
    go_wp2_with fail
    refine (at_no HA.out HZ.out).mono ?_
    rintro e w1 ⟨rfl, rfl⟩
    go_wp2_with fail
    refine (waiting_no HA.out HZ.out).mono ?_
    rintro e w1 ⟨rfl, rfl⟩
    go_wp2_with fail
    go_ret
    exact ⟨rfl, HB.out⟩

set_option maxRecDepth 100000 in
set_option maxHeartbeats 2000000 in
theorem looked_yes_neg (h : MAt w base b own mm xs mv tv ev) (hr : RAt w base2 c rown mm ys mv2 tv2 ev2) (hk : MOk N mm) {y : Int} (hy : y < 0) {k : Nat} (hz : k < mm.ths.length) :
    Calls Tryz.prog 19 #[.agg #[.pointer (some ⟨b, 0, none⟩), .pointer (some ⟨c, 0, none⟩)], .int .i64 (k : Int), .int .i64 y] w fun e w' => e = .returned (.bool true) ∧ Below w.heap.size w w' := by
  have hxl := ths_len h.same
  have hyl := rths_len2 hr
  obtain ⟨x, hx⟩ := some_at (l := xs) (k := k) (by omega)
  obtain ⟨yx, hyx⟩ := some_at (l := ys) (k := k) (by omega)
  have hth : x.th = yx.th := by
    have h1 := h.th_at hx
    have h2 := hr.th_at hyx
    rw [h1] at h2
    exact Option.some.inj h2
  obtain ⟨tb, cap, htv, -⟩ := h.tslice hx
  subst htv
  obtain ⟨rb, rcap, hrv, -⟩ := hr.tslice hyx
  subst hrv
  have hb0 : Below w.heap.size w (w.alloc (.cells #[.pointer (some ⟨b, 0, none⟩), .pointer (some ⟨c, 0, none⟩)] 46)) := (Below.refl _ _).alloc (Nat.le_refl _) _
  have HA := hidI (h.below hb0)
  have HR := hidI (hr.below hb0)
  have HB := hidI hb0
  have HK := hidI hk
  obtain ⟨mo, mc, hmv⟩ := ownsRow_shape hr.mem
  subst hmv
  have HY := hidI hy
  have hy0 : ¬ 0 ≤ y := by omega
  have c0 := HR.out.wcell 0 _ rfl
  have c1 := HR.out.wcell 1 _ rfl
  have HX := hidI hx
  have HYX := hidI hyx
  have HTH := hidI hth
  have hkl : (k : Int) < (ys.length : Int) := by omega
  have hk0 : ¬ (k : Int) < 0 := by omega
  have HKL := hidI hkl
  clear h hr hk hb0 hz hxl hyl hx hyx hth hy
  go_enter Tryz.func19, Tryz.ntmps19
  go_wp2_with fail
  refine (word_out HA.out HK.out.mem.2 (.inl HY.out)).mono ?_
  rintro e w1 ⟨rfl, rfl⟩
  go_wp2_with fail
  refine (register_out (tb := tb) HA.out HX.out (.inl HY.out)).mono ?_
  rintro e w1 ⟨rfl, rfl⟩
  go_wp2_with fail
  refine (at_yes (tb := tb) HA.out HX.out).mono ?_
  rintro e w1 ⟨rfl, rfl⟩
  go_wp2_with fail
  refine (waiting_yes (tb := tb) HA.out HX.out).mono ?_
  rintro e w1 ⟨g, rfl, hrow, hb⟩
  have hm := HR.out.below hb
  have d1 := hm.wcell 1 _ rfl
  have t0 := hm.cell HYX.out 0 _ rfl
  have t1 := hm.cell HYX.out 1 _ rfl
  have t2 := hm.cell HYX.out 2 _ rfl
  have t3 := hm.cell HYX.out 3 _ rfl
  have t4 := hm.cell HYX.out 4 _ rfl
  have t5 := hm.cell HYX.out 5 _ rfl
  have t6 := hm.cell HYX.out 6 _ rfl
  have t7 := hm.cell HYX.out 7 _ rfl
  have t8 := hm.cell HYX.out 8 _ rfl
  have t9 := hm.cell HYX.out 9 _ rfl
  have t10 := hm.cell HYX.out 10 _ rfl
  have t11 := hm.cell HYX.out 11 _ rfl
  have t12 := hm.cell HYX.out 12 _ rfl
  rw [Nat.add_zero] at t0
  have hxt := hm.th k yx HYX.out
  obtain ⟨ca, cc, hcv⟩ := hxt.code.shape
  obtain ⟨wa, wc, hwv⟩ := hxt.wait.shape
  obtain ⟨oa, oc, hov⟩ := ownsRow_shape hxt.out
  rw [hcv] at t0
  rw [hwv] at t10
  rw [hov] at t11
  have hwait : RdT encCell w1 2 (.slice wa yx.th.wait.length wc) yx.th.wait := by have h9 := hxt.wait.rd; rw [hwv] at h9; exact h9
  have hl64 := (HK.out.th yx.th (List.mem_of_getElem? (HR.out.th_at HYX.out))).full
  rw [HTH.out] at hrow ⊢
  have hqB := blk hb (block_new w (.cells #[.pointer (some ⟨b, 0, none⟩), .pointer (some ⟨c, 0, none⟩)] 46))
  have q0 : w1.cell? ⟨w.heap.size, 0, none⟩ = some (.pointer (some ⟨b, 0, none⟩)) := cell_of_block hqB rfl
  have q1 : w1.cell? ⟨w.heap.size, 1, none⟩ = some (.pointer (some ⟨c, 0, none⟩)) := cell_of_block hqB rfl
  clear hqB
  have HWAIT := hidI hwait
  have HROW := hidI (show RdT encCell w1 2 (.slice (some ⟨g, 0, none⟩) yx.th.wait.length yx.th.wait.length) yx.th.wait from Rd.of_own hrow)
  have HB1 := hidI (bnext HB.out hb)
  have H64 := hidI hl64
  have hatz : (yx.th.at_ == yx.th.at_) = true := by simp
  clear hm hxt hcv hwv hov hwait hrow hb hl64
  go_wp2_with fail
  refine (sameCells_true (l := yx.th.wait) (Rd.below HROW.out ?bb) (Rd.below HWAIT.out ?bb) (by have := H64.out; omega)).mono ?_
  case bb => exact (Below.refl _ _).alloc (Nat.le_refl _) _
  rintro e w2 ⟨rfl, hb⟩
  have HB2 := hidI (bnext (HB1.out.alloc HB1.out.size _) hb)
  clear hb
  go_wp2_with fail
  go_ret
  exact ⟨rfl, HB2.out⟩

set_option maxRecDepth 100000 in
set_option maxHeartbeats 2000000 in
theorem looked_no_ll (h : MAt w base b own mm xs mv tv ev) (hr : RAt w base2 c rown mm ys mv2 tv2 ev2) (hk : MOk N mm) {n : Nat} (hn : n < mm.mem.length) (h8 : n < 8) {z : Int} (hz : z < 0 ∨ (mm.ths.length : Int) ≤ z) :
    Calls Tryz.prog 19 #[.agg #[.pointer (some ⟨b, 0, none⟩), .pointer (some ⟨c, 0, none⟩)], .int .i64 z, .int .i64 (n : Int)] w fun e w' => e = .returned (.bool true) ∧ Below w.heap.size w w' := by
  have hxl := ths_len h.same
  have hyl := rths_len2 hr
  rw [hxl] at hz
  have hzy : (z < 0) ∨ (¬ z < 0 ∧ (ys.length : Int) ≤ z) := by omega
  have HZ := hidI hz
  have hb0 : Below w.heap.size w (w.alloc (.cells #[.pointer (some ⟨b, 0, none⟩), .pointer (some ⟨c, 0, none⟩)] 46)) := (Below.refl _ _).alloc (Nat.le_refl _) _
  have HA := hidI (h.below hb0)
  have HR := hidI (hr.below hb0)
  have HB := hidI hb0
  have HK := hidI hk
  obtain ⟨mb, mc, hmv, -⟩ := hr.mslice (by omega)
  subst hmv
  obtain ⟨M0, hM⟩ : ∃ M0, mm.mem.getD n 0 = M0 := ⟨_, rfl⟩
  have cM := HR.out.mcell hn
  rw [hM] at cM
  have HMM := hidI hM
  have hMz : (M0 != M0) = false := by simp
  have HN := hidI hn
  have H8 := hidI h8
  have hn0 : (0 : Int) ≤ (n : Int) := by omega
  have hnl : (n : Int) < (mm.mem.length : Int) := by omega
  have hn8 : (n : Int) < 8 := by omega
  obtain ⟨yo, yc, hyv⟩ := ownsRow_shape hr.ths
  subst hyv
  have c0 := HR.out.wcell 0 _ rfl
  have c1 := HR.out.wcell 1 _ rfl
  clear h hr hk hb0 hz hxl hyl hn h8 hM
  rcases hzy with hz | ⟨hz, hz2⟩
  · go_enter Tryz.func19, Tryz.ntmps19
    go_wp2_with fail
    refine (word_in HA.out HK.out.mem.2 HN.out HMM.out).mono ?_
    rintro e w1 ⟨rfl, rfl⟩
    go_wp2_with fail
    refine (register_no HA.out _ HZ.out).mono ?_
    rintro e w1 ⟨rfl, rfl⟩
    go_wp2_with fail
    refine (at_no HA.out HZ.out).mono ?_
    rintro e w1 ⟨rfl, rfl⟩
    go_wp2_with fail
    refine (waiting_no HA.out HZ.out).mono ?_
    rintro e w1 ⟨rfl, rfl⟩
    go_wp2_with fail
    go_ret
    exact ⟨rfl, HB.out⟩
  · go_enter Tryz.func19, Tryz.ntmps19
    go_wp2_with fail
    refine (word_in HA.out HK.out.mem.2 HN.out HMM.out).mono ?_
    rintro e w1 ⟨rfl, rfl⟩
    go_wp2_with fail
    refine (register_no HA.out _ HZ.out).mono ?_
    rintro e w1 ⟨rfl, rfl⟩
    go_wp2_with fail
    refine (at_no HA.out HZ.out).mono ?_
    rintro e w1 ⟨rfl, rfl⟩
    go_wp2_with fail
    refine (waiting_no HA.out HZ.out).mono ?_
    rintro e w1 ⟨rfl, rfl⟩
    go_wp2_with fail
    go_ret
    exact ⟨rfl, HB.out⟩

set_option maxRecDepth 100000 in
set_option maxHeartbeats 2000000 in
theorem looked_yes_ll (h : MAt w base b own mm xs mv tv ev) (hr : RAt w base2 c rown mm ys mv2 tv2 ev2) (hk : MOk N mm) {n : Nat} (hn : n < mm.mem.length) (h8 : n < 8) {k : Nat} (hz : k < mm.ths.length) :
    Calls Tryz.prog 19 #[.agg #[.pointer (some ⟨b, 0, none⟩), .pointer (some ⟨c, 0, none⟩)], .int .i64 (k : Int), .int .i64 (n : Int)] w fun e w' => e = .returned (.bool true) ∧ Below w.heap.size w w' := by
  have hxl := ths_len h.same
  have hyl := rths_len2 hr
  obtain ⟨x, hx⟩ := some_at (l := xs) (k := k) (by omega)
  obtain ⟨yx, hyx⟩ := some_at (l := ys) (k := k) (by omega)
  have hth : x.th = yx.th := by
    have h1 := h.th_at hx
    have h2 := hr.th_at hyx
    rw [h1] at h2
    exact Option.some.inj h2
  obtain ⟨tb, cap, htv, -⟩ := h.tslice hx
  subst htv
  obtain ⟨rb, rcap, hrv, -⟩ := hr.tslice hyx
  subst hrv
  have hb0 : Below w.heap.size w (w.alloc (.cells #[.pointer (some ⟨b, 0, none⟩), .pointer (some ⟨c, 0, none⟩)] 46)) := (Below.refl _ _).alloc (Nat.le_refl _) _
  have HA := hidI (h.below hb0)
  have HR := hidI (hr.below hb0)
  have HB := hidI hb0
  have HK := hidI hk
  obtain ⟨mb, mc, hmv, -⟩ := hr.mslice (by omega)
  subst hmv
  obtain ⟨M0, hM⟩ : ∃ M0, mm.mem.getD n 0 = M0 := ⟨_, rfl⟩
  have cM := HR.out.mcell hn
  rw [hM] at cM
  have HMM := hidI hM
  have hMz : (M0 != M0) = false := by simp
  have HN := hidI hn
  have H8 := hidI h8
  have hn0 : (0 : Int) ≤ (n : Int) := by omega
  have hnl : (n : Int) < (mm.mem.length : Int) := by omega
  have hn8 : (n : Int) < 8 := by omega
  have c0 := HR.out.wcell 0 _ rfl
  have c1 := HR.out.wcell 1 _ rfl
  have HX := hidI hx
  have HYX := hidI hyx
  have HTH := hidI hth
  have hkl : (k : Int) < (ys.length : Int) := by omega
  have hk0 : ¬ (k : Int) < 0 := by omega
  have HKL := hidI hkl
  clear h hr hk hb0 hz hxl hyl hx hyx hth hn h8 hM
  go_enter Tryz.func19, Tryz.ntmps19
  go_wp2_with fail
  refine (word_in HA.out HK.out.mem.2 HN.out HMM.out).mono ?_
  rintro e w1 ⟨rfl, rfl⟩
  go_wp2_with fail
  refine (register_yes (tb := tb) HA.out HX.out H8.out).mono ?_
  rintro e w1 ⟨rfl, rfl⟩
  go_wp2_with fail
  refine (at_yes (tb := tb) HA.out HX.out).mono ?_
  rintro e w1 ⟨rfl, rfl⟩
  go_wp2_with fail
  refine (waiting_yes (tb := tb) HA.out HX.out).mono ?_
  rintro e w1 ⟨g, rfl, hrow, hb⟩
  have hm := HR.out.below hb
  have d1 := hm.wcell 1 _ rfl
  have t0 := hm.cell HYX.out 0 _ rfl
  have t1 := hm.cell HYX.out 1 _ rfl
  have t2 := hm.cell HYX.out 2 _ rfl
  have t3 := hm.cell HYX.out 3 _ rfl
  have t4 := hm.cell HYX.out 4 _ rfl
  have t5 := hm.cell HYX.out 5 _ rfl
  have t6 := hm.cell HYX.out 6 _ rfl
  have t7 := hm.cell HYX.out 7 _ rfl
  have t8 := hm.cell HYX.out 8 _ rfl
  have t9 := hm.cell HYX.out 9 _ rfl
  have t10 := hm.cell HYX.out 10 _ rfl
  have t11 := hm.cell HYX.out 11 _ rfl
  have t12 := hm.cell HYX.out 12 _ rfl
  rw [Nat.add_zero] at t0
  have hxt := hm.th k yx HYX.out
  obtain ⟨ca, cc, hcv⟩ := hxt.code.shape
  obtain ⟨wa, wc, hwv⟩ := hxt.wait.shape
  obtain ⟨oa, oc, hov⟩ := ownsRow_shape hxt.out
  rw [hcv] at t0
  rw [hwv] at t10
  rw [hov] at t11
  have hwait : RdT encCell w1 2 (.slice wa yx.th.wait.length wc) yx.th.wait := by have h9 := hxt.wait.rd; rw [hwv] at h9; exact h9
  have hl64 := (HK.out.th yx.th (List.mem_of_getElem? (HR.out.th_at HYX.out))).full
  rw [HTH.out] at hrow ⊢
  have hqB := blk hb (block_new w (.cells #[.pointer (some ⟨b, 0, none⟩), .pointer (some ⟨c, 0, none⟩)] 46))
  have q0 : w1.cell? ⟨w.heap.size, 0, none⟩ = some (.pointer (some ⟨b, 0, none⟩)) := cell_of_block hqB rfl
  have q1 : w1.cell? ⟨w.heap.size, 1, none⟩ = some (.pointer (some ⟨c, 0, none⟩)) := cell_of_block hqB rfl
  clear hqB
  have HWAIT := hidI hwait
  have HROW := hidI (show RdT encCell w1 2 (.slice (some ⟨g, 0, none⟩) yx.th.wait.length yx.th.wait.length) yx.th.wait from Rd.of_own hrow)
  have HB1 := hidI (bnext HB.out hb)
  have H64 := hidI hl64
  have hatz : (yx.th.at_ == yx.th.at_) = true := by simp
  have sR : (w1.alloc (.cells #[.slice ca yx.th.code.length cc, .int .i64 (yx.th.reg 0), .int .i64 (yx.th.reg 1), .int .i64 (yx.th.reg 2), .int .i64 (yx.th.reg 3), .int .i64 (yx.th.reg 4), .int .i64 (yx.th.reg 5), .int .i64 (yx.th.reg 6), .int .i64 (yx.th.reg 7), .int .i64 yx.th.at_, .slice wa yx.th.wait.length wc, .slice oa yx.th.out.length oc, .int .u8 yx.th.fin] 117)).cell? ⟨w1.heap.size, 1 + n, none⟩ = some (.int .i64 (yx.th.reg n)) := cell_of_block (block_new w1 _) (show ((encR ⟨yx.th, .slice ca yx.th.code.length cc, .slice wa yx.th.wait.length wc, .slice oa yx.th.out.length oc⟩).toArray)[1 + n]? = some (.int .i64 (yx.th.reg n)) from by rw [List.getElem?_toArray]; exact encR_reg _ n H8.out)
  have hrz : (yx.th.reg n != yx.th.reg n) = false := by simp
  clear hm hxt hcv hwv hov hwait hrow hb hl64
  go_wp2_with fail
  refine (sameCells_true (l := yx.th.wait) (Rd.below HROW.out ?bb) (Rd.below HWAIT.out ?bb) (by have := H64.out; omega)).mono ?_
  case bb => exact (Below.refl _ _).alloc (Nat.le_refl _) _
  rintro e w2 ⟨rfl, hb⟩
  have HB2 := hidI (bnext (HB1.out.alloc HB1.out.size _) hb)
  clear hb
  go_wp2_with fail
  go_ret
  exact ⟨rfl, HB2.out⟩

set_option maxRecDepth 100000 in
set_option maxHeartbeats 2000000 in
theorem looked_no_lg (h : MAt w base b own mm xs mv tv ev) (hr : RAt w base2 c rown mm ys mv2 tv2 ev2) (hk : MOk N mm) {n : Nat} (hn : n < mm.mem.length) (h8 : 8 ≤ n) {z : Int} (hz : z < 0 ∨ (mm.ths.length : Int) ≤ z) :
    Calls Tryz.prog 19 #[.agg #[.pointer (some ⟨b, 0, none⟩), .pointer (some ⟨c, 0, none⟩)], .int .i64 z, .int .i64 (n : Int)] w fun e w' => e = .returned (.bool true) ∧ Below w.heap.size w w' := by
  have hxl := ths_len h.same
  have hyl := rths_len2 hr
  rw [hxl] at hz
  have hzy : (z < 0) ∨ (¬ z < 0 ∧ (ys.length : Int) ≤ z) := by omega
  have HZ := hidI hz
  have hb0 : Below w.heap.size w (w.alloc (.cells #[.pointer (some ⟨b, 0, none⟩), .pointer (some ⟨c, 0, none⟩)] 46)) := (Below.refl _ _).alloc (Nat.le_refl _) _
  have HA := hidI (h.below hb0)
  have HR := hidI (hr.below hb0)
  have HB := hidI hb0
  have HK := hidI hk
  obtain ⟨mb, mc, hmv, -⟩ := hr.mslice (by omega)
  subst hmv
  obtain ⟨M0, hM⟩ : ∃ M0, mm.mem.getD n 0 = M0 := ⟨_, rfl⟩
  have cM := HR.out.mcell hn
  rw [hM] at cM
  have HMM := hidI hM
  have hMz : (M0 != M0) = false := by simp
  have HN := hidI hn
  have H8 := hidI h8
  have hn0 : (0 : Int) ≤ (n : Int) := by omega
  have hnl : (n : Int) < (mm.mem.length : Int) := by omega
  have hn8 : ¬ (n : Int) < 8 := by omega
  obtain ⟨yo, yc, hyv⟩ := ownsRow_shape hr.ths
  subst hyv
  have c0 := HR.out.wcell 0 _ rfl
  have c1 := HR.out.wcell 1 _ rfl
  clear h hr hk hb0 hz hxl hyl hn h8 hM
  rcases hzy with hz | ⟨hz, hz2⟩
  · go_enter Tryz.func19, Tryz.ntmps19
    go_wp2_with fail
    refine (word_in HA.out HK.out.mem.2 HN.out HMM.out).mono ?_
    rintro e w1 ⟨rfl, rfl⟩
    go_wp2_with fail
    refine (register_no HA.out _ HZ.out).mono ?_
    rintro e w1 ⟨rfl, rfl⟩
    go_wp2_with fail
    refine (at_no HA.out HZ.out).mono ?_
    rintro e w1 ⟨rfl, rfl⟩
    go_wp2_with fail
    refine (waiting_no HA.out HZ.out).mono ?_
    rintro e w1 ⟨rfl, rfl⟩
    go_wp2_with fail
    go_ret
    exact ⟨rfl, HB.out⟩
  · go_enter Tryz.func19, Tryz.ntmps19
    go_wp2_with fail
    refine (word_in HA.out HK.out.mem.2 HN.out HMM.out).mono ?_
    rintro e w1 ⟨rfl, rfl⟩
    go_wp2_with fail
    refine (register_no HA.out _ HZ.out).mono ?_
    rintro e w1 ⟨rfl, rfl⟩
    go_wp2_with fail
    refine (at_no HA.out HZ.out).mono ?_
    rintro e w1 ⟨rfl, rfl⟩
    go_wp2_with fail
    refine (waiting_no HA.out HZ.out).mono ?_
    rintro e w1 ⟨rfl, rfl⟩
    go_wp2_with fail
    go_ret
    exact ⟨rfl, HB.out⟩

set_option maxRecDepth 100000 in
set_option maxHeartbeats 2000000 in
theorem looked_yes_lg (h : MAt w base b own mm xs mv tv ev) (hr : RAt w base2 c rown mm ys mv2 tv2 ev2) (hk : MOk N mm) {n : Nat} (hn : n < mm.mem.length) (h8 : 8 ≤ n) {k : Nat} (hz : k < mm.ths.length) :
    Calls Tryz.prog 19 #[.agg #[.pointer (some ⟨b, 0, none⟩), .pointer (some ⟨c, 0, none⟩)], .int .i64 (k : Int), .int .i64 (n : Int)] w fun e w' => e = .returned (.bool true) ∧ Below w.heap.size w w' := by
  have hxl := ths_len h.same
  have hyl := rths_len2 hr
  obtain ⟨x, hx⟩ := some_at (l := xs) (k := k) (by omega)
  obtain ⟨yx, hyx⟩ := some_at (l := ys) (k := k) (by omega)
  have hth : x.th = yx.th := by
    have h1 := h.th_at hx
    have h2 := hr.th_at hyx
    rw [h1] at h2
    exact Option.some.inj h2
  obtain ⟨tb, cap, htv, -⟩ := h.tslice hx
  subst htv
  obtain ⟨rb, rcap, hrv, -⟩ := hr.tslice hyx
  subst hrv
  have hb0 : Below w.heap.size w (w.alloc (.cells #[.pointer (some ⟨b, 0, none⟩), .pointer (some ⟨c, 0, none⟩)] 46)) := (Below.refl _ _).alloc (Nat.le_refl _) _
  have HA := hidI (h.below hb0)
  have HR := hidI (hr.below hb0)
  have HB := hidI hb0
  have HK := hidI hk
  obtain ⟨mb, mc, hmv, -⟩ := hr.mslice (by omega)
  subst hmv
  obtain ⟨M0, hM⟩ : ∃ M0, mm.mem.getD n 0 = M0 := ⟨_, rfl⟩
  have cM := HR.out.mcell hn
  rw [hM] at cM
  have HMM := hidI hM
  have hMz : (M0 != M0) = false := by simp
  have HN := hidI hn
  have H8 := hidI h8
  have hn0 : (0 : Int) ≤ (n : Int) := by omega
  have hnl : (n : Int) < (mm.mem.length : Int) := by omega
  have hn8 : ¬ (n : Int) < 8 := by omega
  have c0 := HR.out.wcell 0 _ rfl
  have c1 := HR.out.wcell 1 _ rfl
  have HX := hidI hx
  have HYX := hidI hyx
  have HTH := hidI hth
  have hkl : (k : Int) < (ys.length : Int) := by omega
  have hk0 : ¬ (k : Int) < 0 := by omega
  have HKL := hidI hkl
  clear h hr hk hb0 hz hxl hyl hx hyx hth hn h8 hM
  go_enter Tryz.func19, Tryz.ntmps19
  go_wp2_with fail
  refine (word_in HA.out HK.out.mem.2 HN.out HMM.out).mono ?_
  rintro e w1 ⟨rfl, rfl⟩
  go_wp2_with fail
  refine (register_out (tb := tb) HA.out HX.out (.inr (by have := H8.out; omega))).mono ?_
  rintro e w1 ⟨rfl, rfl⟩
  go_wp2_with fail
  refine (at_yes (tb := tb) HA.out HX.out).mono ?_
  rintro e w1 ⟨rfl, rfl⟩
  go_wp2_with fail
  refine (waiting_yes (tb := tb) HA.out HX.out).mono ?_
  rintro e w1 ⟨g, rfl, hrow, hb⟩
  have hm := HR.out.below hb
  have d1 := hm.wcell 1 _ rfl
  have t0 := hm.cell HYX.out 0 _ rfl
  have t1 := hm.cell HYX.out 1 _ rfl
  have t2 := hm.cell HYX.out 2 _ rfl
  have t3 := hm.cell HYX.out 3 _ rfl
  have t4 := hm.cell HYX.out 4 _ rfl
  have t5 := hm.cell HYX.out 5 _ rfl
  have t6 := hm.cell HYX.out 6 _ rfl
  have t7 := hm.cell HYX.out 7 _ rfl
  have t8 := hm.cell HYX.out 8 _ rfl
  have t9 := hm.cell HYX.out 9 _ rfl
  have t10 := hm.cell HYX.out 10 _ rfl
  have t11 := hm.cell HYX.out 11 _ rfl
  have t12 := hm.cell HYX.out 12 _ rfl
  rw [Nat.add_zero] at t0
  have hxt := hm.th k yx HYX.out
  obtain ⟨ca, cc, hcv⟩ := hxt.code.shape
  obtain ⟨wa, wc, hwv⟩ := hxt.wait.shape
  obtain ⟨oa, oc, hov⟩ := ownsRow_shape hxt.out
  rw [hcv] at t0
  rw [hwv] at t10
  rw [hov] at t11
  have hwait : RdT encCell w1 2 (.slice wa yx.th.wait.length wc) yx.th.wait := by have h9 := hxt.wait.rd; rw [hwv] at h9; exact h9
  have hl64 := (HK.out.th yx.th (List.mem_of_getElem? (HR.out.th_at HYX.out))).full
  rw [HTH.out] at hrow ⊢
  have hqB := blk hb (block_new w (.cells #[.pointer (some ⟨b, 0, none⟩), .pointer (some ⟨c, 0, none⟩)] 46))
  have q0 : w1.cell? ⟨w.heap.size, 0, none⟩ = some (.pointer (some ⟨b, 0, none⟩)) := cell_of_block hqB rfl
  have q1 : w1.cell? ⟨w.heap.size, 1, none⟩ = some (.pointer (some ⟨c, 0, none⟩)) := cell_of_block hqB rfl
  clear hqB
  have HWAIT := hidI hwait
  have HROW := hidI (show RdT encCell w1 2 (.slice (some ⟨g, 0, none⟩) yx.th.wait.length yx.th.wait.length) yx.th.wait from Rd.of_own hrow)
  have HB1 := hidI (bnext HB.out hb)
  have H64 := hidI hl64
  have hatz : (yx.th.at_ == yx.th.at_) = true := by simp
  clear hm hxt hcv hwv hov hwait hrow hb hl64
  go_wp2_with fail
  refine (sameCells_true (l := yx.th.wait) (Rd.below HROW.out ?bb) (Rd.below HWAIT.out ?bb) (by have := H64.out; omega)).mono ?_
  case bb => exact (Below.refl _ _).alloc (Nat.le_refl _) _
  rintro e w2 ⟨rfl, hb⟩
  have HB2 := hidI (bnext (HB1.out.alloc HB1.out.size _) hb)
  clear hb
  go_wp2_with fail
  go_ret
  exact ⟨rfl, HB2.out⟩

set_option maxRecDepth 100000 in
set_option maxHeartbeats 2000000 in
theorem looked_no_gl (h : MAt w base b own mm xs mv tv ev) (hr : RAt w base2 c rown mm ys mv2 tv2 ev2) (hk : MOk N mm) {n : Nat} (hn : mm.mem.length ≤ n) (h8 : n < 8) {z : Int} (hz : z < 0 ∨ (mm.ths.length : Int) ≤ z) :
    Calls Tryz.prog 19 #[.agg #[.pointer (some ⟨b, 0, none⟩), .pointer (some ⟨c, 0, none⟩)], .int .i64 z, .int .i64 (n : Int)] w fun e w' => e = .returned (.bool true) ∧ Below w.heap.size w w' := by
  have hxl := ths_len h.same
  have hyl := rths_len2 hr
  rw [hxl] at hz
  have hzy : (z < 0) ∨ (¬ z < 0 ∧ (ys.length : Int) ≤ z) := by omega
  have HZ := hidI hz
  have hb0 : Below w.heap.size w (w.alloc (.cells #[.pointer (some ⟨b, 0, none⟩), .pointer (some ⟨c, 0, none⟩)] 46)) := (Below.refl _ _).alloc (Nat.le_refl _) _
  have HA := hidI (h.below hb0)
  have HR := hidI (hr.below hb0)
  have HB := hidI hb0
  have HK := hidI hk
  obtain ⟨mo, mc, hmv⟩ := ownsRow_shape hr.mem
  subst hmv
  have HN := hidI hn
  have H8 := hidI h8
  have hn0 : (0 : Int) ≤ (n : Int) := by omega
  have hnl : ¬ (n : Int) < (mm.mem.length : Int) := by omega
  have hn8 : (n : Int) < 8 := by omega
  obtain ⟨yo, yc, hyv⟩ := ownsRow_shape hr.ths
  subst hyv
  have c0 := HR.out.wcell 0 _ rfl
  have c1 := HR.out.wcell 1 _ rfl
  clear h hr hk hb0 hz hxl hyl hn h8
  rcases hzy with hz | ⟨hz, hz2⟩
  · go_enter Tryz.func19, Tryz.ntmps19
    go_wp2_with fail
    refine (word_out HA.out HK.out.mem.2 (.inr (by have := HN.out; omega))).mono ?_
    rintro e w1 ⟨rfl, rfl⟩
    go_wp2_with fail
    refine (register_no HA.out _ HZ.out).mono ?_
    rintro e w1 ⟨rfl, rfl⟩
    go_wp2_with fail
    refine (at_no HA.out HZ.out).mono ?_
    rintro e w1 ⟨rfl, rfl⟩
    go_wp2_with fail
    refine (waiting_no HA.out HZ.out).mono ?_
    rintro e w1 ⟨rfl, rfl⟩
    go_wp2_with fail
    go_ret
    exact ⟨rfl, HB.out⟩
  · go_enter Tryz.func19, Tryz.ntmps19
    go_wp2_with fail
    refine (word_out HA.out HK.out.mem.2 (.inr (by have := HN.out; omega))).mono ?_
    rintro e w1 ⟨rfl, rfl⟩
    go_wp2_with fail
    refine (register_no HA.out _ HZ.out).mono ?_
    rintro e w1 ⟨rfl, rfl⟩
    go_wp2_with fail
    refine (at_no HA.out HZ.out).mono ?_
    rintro e w1 ⟨rfl, rfl⟩
    go_wp2_with fail
    refine (waiting_no HA.out HZ.out).mono ?_
    rintro e w1 ⟨rfl, rfl⟩
    go_wp2_with fail
    go_ret
    exact ⟨rfl, HB.out⟩

set_option maxRecDepth 100000 in
set_option maxHeartbeats 2000000 in
theorem looked_yes_gl (h : MAt w base b own mm xs mv tv ev) (hr : RAt w base2 c rown mm ys mv2 tv2 ev2) (hk : MOk N mm) {n : Nat} (hn : mm.mem.length ≤ n) (h8 : n < 8) {k : Nat} (hz : k < mm.ths.length) :
    Calls Tryz.prog 19 #[.agg #[.pointer (some ⟨b, 0, none⟩), .pointer (some ⟨c, 0, none⟩)], .int .i64 (k : Int), .int .i64 (n : Int)] w fun e w' => e = .returned (.bool true) ∧ Below w.heap.size w w' := by
  have hxl := ths_len h.same
  have hyl := rths_len2 hr
  obtain ⟨x, hx⟩ := some_at (l := xs) (k := k) (by omega)
  obtain ⟨yx, hyx⟩ := some_at (l := ys) (k := k) (by omega)
  have hth : x.th = yx.th := by
    have h1 := h.th_at hx
    have h2 := hr.th_at hyx
    rw [h1] at h2
    exact Option.some.inj h2
  obtain ⟨tb, cap, htv, -⟩ := h.tslice hx
  subst htv
  obtain ⟨rb, rcap, hrv, -⟩ := hr.tslice hyx
  subst hrv
  have hb0 : Below w.heap.size w (w.alloc (.cells #[.pointer (some ⟨b, 0, none⟩), .pointer (some ⟨c, 0, none⟩)] 46)) := (Below.refl _ _).alloc (Nat.le_refl _) _
  have HA := hidI (h.below hb0)
  have HR := hidI (hr.below hb0)
  have HB := hidI hb0
  have HK := hidI hk
  obtain ⟨mo, mc, hmv⟩ := ownsRow_shape hr.mem
  subst hmv
  have HN := hidI hn
  have H8 := hidI h8
  have hn0 : (0 : Int) ≤ (n : Int) := by omega
  have hnl : ¬ (n : Int) < (mm.mem.length : Int) := by omega
  have hn8 : (n : Int) < 8 := by omega
  have c0 := HR.out.wcell 0 _ rfl
  have c1 := HR.out.wcell 1 _ rfl
  have HX := hidI hx
  have HYX := hidI hyx
  have HTH := hidI hth
  have hkl : (k : Int) < (ys.length : Int) := by omega
  have hk0 : ¬ (k : Int) < 0 := by omega
  have HKL := hidI hkl
  clear h hr hk hb0 hz hxl hyl hx hyx hth hn h8
  go_enter Tryz.func19, Tryz.ntmps19
  go_wp2_with fail
  refine (word_out HA.out HK.out.mem.2 (.inr (by have := HN.out; omega))).mono ?_
  rintro e w1 ⟨rfl, rfl⟩
  go_wp2_with fail
  refine (register_yes (tb := tb) HA.out HX.out H8.out).mono ?_
  rintro e w1 ⟨rfl, rfl⟩
  go_wp2_with fail
  refine (at_yes (tb := tb) HA.out HX.out).mono ?_
  rintro e w1 ⟨rfl, rfl⟩
  go_wp2_with fail
  refine (waiting_yes (tb := tb) HA.out HX.out).mono ?_
  rintro e w1 ⟨g, rfl, hrow, hb⟩
  have hm := HR.out.below hb
  have d1 := hm.wcell 1 _ rfl
  have t0 := hm.cell HYX.out 0 _ rfl
  have t1 := hm.cell HYX.out 1 _ rfl
  have t2 := hm.cell HYX.out 2 _ rfl
  have t3 := hm.cell HYX.out 3 _ rfl
  have t4 := hm.cell HYX.out 4 _ rfl
  have t5 := hm.cell HYX.out 5 _ rfl
  have t6 := hm.cell HYX.out 6 _ rfl
  have t7 := hm.cell HYX.out 7 _ rfl
  have t8 := hm.cell HYX.out 8 _ rfl
  have t9 := hm.cell HYX.out 9 _ rfl
  have t10 := hm.cell HYX.out 10 _ rfl
  have t11 := hm.cell HYX.out 11 _ rfl
  have t12 := hm.cell HYX.out 12 _ rfl
  rw [Nat.add_zero] at t0
  have hxt := hm.th k yx HYX.out
  obtain ⟨ca, cc, hcv⟩ := hxt.code.shape
  obtain ⟨wa, wc, hwv⟩ := hxt.wait.shape
  obtain ⟨oa, oc, hov⟩ := ownsRow_shape hxt.out
  rw [hcv] at t0
  rw [hwv] at t10
  rw [hov] at t11
  have hwait : RdT encCell w1 2 (.slice wa yx.th.wait.length wc) yx.th.wait := by have h9 := hxt.wait.rd; rw [hwv] at h9; exact h9
  have hl64 := (HK.out.th yx.th (List.mem_of_getElem? (HR.out.th_at HYX.out))).full
  rw [HTH.out] at hrow ⊢
  have hqB := blk hb (block_new w (.cells #[.pointer (some ⟨b, 0, none⟩), .pointer (some ⟨c, 0, none⟩)] 46))
  have q0 : w1.cell? ⟨w.heap.size, 0, none⟩ = some (.pointer (some ⟨b, 0, none⟩)) := cell_of_block hqB rfl
  have q1 : w1.cell? ⟨w.heap.size, 1, none⟩ = some (.pointer (some ⟨c, 0, none⟩)) := cell_of_block hqB rfl
  clear hqB
  have HWAIT := hidI hwait
  have HROW := hidI (show RdT encCell w1 2 (.slice (some ⟨g, 0, none⟩) yx.th.wait.length yx.th.wait.length) yx.th.wait from Rd.of_own hrow)
  have HB1 := hidI (bnext HB.out hb)
  have H64 := hidI hl64
  have hatz : (yx.th.at_ == yx.th.at_) = true := by simp
  have sR : (w1.alloc (.cells #[.slice ca yx.th.code.length cc, .int .i64 (yx.th.reg 0), .int .i64 (yx.th.reg 1), .int .i64 (yx.th.reg 2), .int .i64 (yx.th.reg 3), .int .i64 (yx.th.reg 4), .int .i64 (yx.th.reg 5), .int .i64 (yx.th.reg 6), .int .i64 (yx.th.reg 7), .int .i64 yx.th.at_, .slice wa yx.th.wait.length wc, .slice oa yx.th.out.length oc, .int .u8 yx.th.fin] 117)).cell? ⟨w1.heap.size, 1 + n, none⟩ = some (.int .i64 (yx.th.reg n)) := cell_of_block (block_new w1 _) (show ((encR ⟨yx.th, .slice ca yx.th.code.length cc, .slice wa yx.th.wait.length wc, .slice oa yx.th.out.length oc⟩).toArray)[1 + n]? = some (.int .i64 (yx.th.reg n)) from by rw [List.getElem?_toArray]; exact encR_reg _ n H8.out)
  have hrz : (yx.th.reg n != yx.th.reg n) = false := by simp
  clear hm hxt hcv hwv hov hwait hrow hb hl64
  go_wp2_with fail
  refine (sameCells_true (l := yx.th.wait) (Rd.below HROW.out ?bb) (Rd.below HWAIT.out ?bb) (by have := H64.out; omega)).mono ?_
  case bb => exact (Below.refl _ _).alloc (Nat.le_refl _) _
  rintro e w2 ⟨rfl, hb⟩
  have HB2 := hidI (bnext (HB1.out.alloc HB1.out.size _) hb)
  clear hb
  go_wp2_with fail
  go_ret
  exact ⟨rfl, HB2.out⟩

set_option maxRecDepth 100000 in
set_option maxHeartbeats 2000000 in
theorem looked_no_gg (h : MAt w base b own mm xs mv tv ev) (hr : RAt w base2 c rown mm ys mv2 tv2 ev2) (hk : MOk N mm) {n : Nat} (hn : mm.mem.length ≤ n) (h8 : 8 ≤ n) {z : Int} (hz : z < 0 ∨ (mm.ths.length : Int) ≤ z) :
    Calls Tryz.prog 19 #[.agg #[.pointer (some ⟨b, 0, none⟩), .pointer (some ⟨c, 0, none⟩)], .int .i64 z, .int .i64 (n : Int)] w fun e w' => e = .returned (.bool true) ∧ Below w.heap.size w w' := by
  have hxl := ths_len h.same
  have hyl := rths_len2 hr
  rw [hxl] at hz
  have hzy : (z < 0) ∨ (¬ z < 0 ∧ (ys.length : Int) ≤ z) := by omega
  have HZ := hidI hz
  have hb0 : Below w.heap.size w (w.alloc (.cells #[.pointer (some ⟨b, 0, none⟩), .pointer (some ⟨c, 0, none⟩)] 46)) := (Below.refl _ _).alloc (Nat.le_refl _) _
  have HA := hidI (h.below hb0)
  have HR := hidI (hr.below hb0)
  have HB := hidI hb0
  have HK := hidI hk
  obtain ⟨mo, mc, hmv⟩ := ownsRow_shape hr.mem
  subst hmv
  have HN := hidI hn
  have H8 := hidI h8
  have hn0 : (0 : Int) ≤ (n : Int) := by omega
  have hnl : ¬ (n : Int) < (mm.mem.length : Int) := by omega
  have hn8 : ¬ (n : Int) < 8 := by omega
  obtain ⟨yo, yc, hyv⟩ := ownsRow_shape hr.ths
  subst hyv
  have c0 := HR.out.wcell 0 _ rfl
  have c1 := HR.out.wcell 1 _ rfl
  clear h hr hk hb0 hz hxl hyl hn h8
  rcases hzy with hz | ⟨hz, hz2⟩
  · go_enter Tryz.func19, Tryz.ntmps19
    go_wp2_with fail
    refine (word_out HA.out HK.out.mem.2 (.inr (by have := HN.out; omega))).mono ?_
    rintro e w1 ⟨rfl, rfl⟩
    go_wp2_with fail
    refine (register_no HA.out _ HZ.out).mono ?_
    rintro e w1 ⟨rfl, rfl⟩
    go_wp2_with fail
    refine (at_no HA.out HZ.out).mono ?_
    rintro e w1 ⟨rfl, rfl⟩
    go_wp2_with fail
    refine (waiting_no HA.out HZ.out).mono ?_
    rintro e w1 ⟨rfl, rfl⟩
    go_wp2_with fail
    go_ret
    exact ⟨rfl, HB.out⟩
  · go_enter Tryz.func19, Tryz.ntmps19
    go_wp2_with fail
    refine (word_out HA.out HK.out.mem.2 (.inr (by have := HN.out; omega))).mono ?_
    rintro e w1 ⟨rfl, rfl⟩
    go_wp2_with fail
    refine (register_no HA.out _ HZ.out).mono ?_
    rintro e w1 ⟨rfl, rfl⟩
    go_wp2_with fail
    refine (at_no HA.out HZ.out).mono ?_
    rintro e w1 ⟨rfl, rfl⟩
    go_wp2_with fail
    refine (waiting_no HA.out HZ.out).mono ?_
    rintro e w1 ⟨rfl, rfl⟩
    go_wp2_with fail
    go_ret
    exact ⟨rfl, HB.out⟩

set_option maxRecDepth 100000 in
set_option maxHeartbeats 2000000 in
theorem looked_yes_gg (h : MAt w base b own mm xs mv tv ev) (hr : RAt w base2 c rown mm ys mv2 tv2 ev2) (hk : MOk N mm) {n : Nat} (hn : mm.mem.length ≤ n) (h8 : 8 ≤ n) {k : Nat} (hz : k < mm.ths.length) :
    Calls Tryz.prog 19 #[.agg #[.pointer (some ⟨b, 0, none⟩), .pointer (some ⟨c, 0, none⟩)], .int .i64 (k : Int), .int .i64 (n : Int)] w fun e w' => e = .returned (.bool true) ∧ Below w.heap.size w w' := by
  have hxl := ths_len h.same
  have hyl := rths_len2 hr
  obtain ⟨x, hx⟩ := some_at (l := xs) (k := k) (by omega)
  obtain ⟨yx, hyx⟩ := some_at (l := ys) (k := k) (by omega)
  have hth : x.th = yx.th := by
    have h1 := h.th_at hx
    have h2 := hr.th_at hyx
    rw [h1] at h2
    exact Option.some.inj h2
  obtain ⟨tb, cap, htv, -⟩ := h.tslice hx
  subst htv
  obtain ⟨rb, rcap, hrv, -⟩ := hr.tslice hyx
  subst hrv
  have hb0 : Below w.heap.size w (w.alloc (.cells #[.pointer (some ⟨b, 0, none⟩), .pointer (some ⟨c, 0, none⟩)] 46)) := (Below.refl _ _).alloc (Nat.le_refl _) _
  have HA := hidI (h.below hb0)
  have HR := hidI (hr.below hb0)
  have HB := hidI hb0
  have HK := hidI hk
  obtain ⟨mo, mc, hmv⟩ := ownsRow_shape hr.mem
  subst hmv
  have HN := hidI hn
  have H8 := hidI h8
  have hn0 : (0 : Int) ≤ (n : Int) := by omega
  have hnl : ¬ (n : Int) < (mm.mem.length : Int) := by omega
  have hn8 : ¬ (n : Int) < 8 := by omega
  have c0 := HR.out.wcell 0 _ rfl
  have c1 := HR.out.wcell 1 _ rfl
  have HX := hidI hx
  have HYX := hidI hyx
  have HTH := hidI hth
  have hkl : (k : Int) < (ys.length : Int) := by omega
  have hk0 : ¬ (k : Int) < 0 := by omega
  have HKL := hidI hkl
  clear h hr hk hb0 hz hxl hyl hx hyx hth hn h8
  go_enter Tryz.func19, Tryz.ntmps19
  go_wp2_with fail
  refine (word_out HA.out HK.out.mem.2 (.inr (by have := HN.out; omega))).mono ?_
  rintro e w1 ⟨rfl, rfl⟩
  go_wp2_with fail
  refine (register_out (tb := tb) HA.out HX.out (.inr (by have := H8.out; omega))).mono ?_
  rintro e w1 ⟨rfl, rfl⟩
  go_wp2_with fail
  refine (at_yes (tb := tb) HA.out HX.out).mono ?_
  rintro e w1 ⟨rfl, rfl⟩
  go_wp2_with fail
  refine (waiting_yes (tb := tb) HA.out HX.out).mono ?_
  rintro e w1 ⟨g, rfl, hrow, hb⟩
  have hm := HR.out.below hb
  have d1 := hm.wcell 1 _ rfl
  have t0 := hm.cell HYX.out 0 _ rfl
  have t1 := hm.cell HYX.out 1 _ rfl
  have t2 := hm.cell HYX.out 2 _ rfl
  have t3 := hm.cell HYX.out 3 _ rfl
  have t4 := hm.cell HYX.out 4 _ rfl
  have t5 := hm.cell HYX.out 5 _ rfl
  have t6 := hm.cell HYX.out 6 _ rfl
  have t7 := hm.cell HYX.out 7 _ rfl
  have t8 := hm.cell HYX.out 8 _ rfl
  have t9 := hm.cell HYX.out 9 _ rfl
  have t10 := hm.cell HYX.out 10 _ rfl
  have t11 := hm.cell HYX.out 11 _ rfl
  have t12 := hm.cell HYX.out 12 _ rfl
  rw [Nat.add_zero] at t0
  have hxt := hm.th k yx HYX.out
  obtain ⟨ca, cc, hcv⟩ := hxt.code.shape
  obtain ⟨wa, wc, hwv⟩ := hxt.wait.shape
  obtain ⟨oa, oc, hov⟩ := ownsRow_shape hxt.out
  rw [hcv] at t0
  rw [hwv] at t10
  rw [hov] at t11
  have hwait : RdT encCell w1 2 (.slice wa yx.th.wait.length wc) yx.th.wait := by have h9 := hxt.wait.rd; rw [hwv] at h9; exact h9
  have hl64 := (HK.out.th yx.th (List.mem_of_getElem? (HR.out.th_at HYX.out))).full
  rw [HTH.out] at hrow ⊢
  have hqB := blk hb (block_new w (.cells #[.pointer (some ⟨b, 0, none⟩), .pointer (some ⟨c, 0, none⟩)] 46))
  have q0 : w1.cell? ⟨w.heap.size, 0, none⟩ = some (.pointer (some ⟨b, 0, none⟩)) := cell_of_block hqB rfl
  have q1 : w1.cell? ⟨w.heap.size, 1, none⟩ = some (.pointer (some ⟨c, 0, none⟩)) := cell_of_block hqB rfl
  clear hqB
  have HWAIT := hidI hwait
  have HROW := hidI (show RdT encCell w1 2 (.slice (some ⟨g, 0, none⟩) yx.th.wait.length yx.th.wait.length) yx.th.wait from Rd.of_own hrow)
  have HB1 := hidI (bnext HB.out hb)
  have H64 := hidI hl64
  have hatz : (yx.th.at_ == yx.th.at_) = true := by simp
  clear hm hxt hcv hwv hov hwait hrow hb hl64
  go_wp2_with fail
  refine (sameCells_true (l := yx.th.wait) (Rd.below HROW.out ?bb) (Rd.below HWAIT.out ?bb) (by have := H64.out; omega)).mono ?_
  case bb => exact (Below.refl _ _).alloc (Nat.le_refl _) _
  rintro e w2 ⟨rfl, hb⟩
  have HB2 := hidI (bnext (HB1.out.alloc HB1.out.size _) hb)
  clear hb
  go_wp2_with fail
  go_ret
  exact ⟨rfl, HB2.out⟩

/-- whatever thread, whatever number -/
theorem looked_any (h : MAt w base b own mm xs mv tv ev) (hr : RAt w base2 c rown mm ys mv2 tv2 ev2) (hk : MOk N mm) (z y : Int) :
    Calls Tryz.prog 19 #[.agg #[.pointer (some ⟨b, 0, none⟩), .pointer (some ⟨c, 0, none⟩)], .int .i64 z, .int .i64 y] w fun e w' => e = .returned (.bool true) ∧ Below w.heap.size w w' := by
  by_cases hz : z < 0 ∨ (mm.ths.length : Int) ≤ z
  · by_cases hy : y < 0
    · exact looked_no_neg h hr hk hy hz
    · obtain ⟨n, rfl⟩ := Int.eq_ofNat_of_zero_le (show 0 ≤ y by omega)
      by_cases h1 : n < mm.mem.length <;> by_cases h2 : n < 8
      · exact looked_no_ll h hr hk h1 h2 hz
      · exact looked_no_lg h hr hk h1 (by omega) hz
      · exact looked_no_gl h hr hk (by omega) h2 hz
      · exact looked_no_gg h hr hk (by omega) (by omega) hz
  · obtain ⟨k, rfl⟩ := Int.eq_ofNat_of_zero_le (show 0 ≤ z by omega)
    have hz' : k < mm.ths.length := by omega
    by_cases hy : y < 0
    · exact looked_yes_neg h hr hk hy hz'
    · obtain ⟨n, rfl⟩ := Int.eq_ofNat_of_zero_le (show 0 ≤ y by omega)
      by_cases h1 : n < mm.mem.length <;> by_cases h2 : n < 8
      · exact looked_yes_ll h hr hk h1 h2 hz'
      · exact looked_yes_lg h hr hk h1 (by omega) hz'
      · exact looked_yes_gl h hr hk (by omega) h2 hz'
      · exact looked_yes_gg h hr hk (by omega) (by omega) hz'
end Go.Proofs.YthmmbldhbdnfpaaGreatDoor

/- The document's Run: what a store into a thread's cell does; newer. -/
import Derived.Test.YtilkpmjkiohfdaaGreatDoorTrD
import Derived.Test.YtilkpmjkiohfdaaGreatDoorTlInv
namespace Go.Proofs.YtilkpmjkiohfdaaGreatDoor
open Go.RowKit
set_option linter.unusedVariables false
set_option linter.unusedSimpArgs false

variable {w w' : World} {base b m t : Nat} {tw : TW} {ts : List RX} {ev : Value}

theorem bits16_set (m : Nat) {s : Nat} (hs : s < 16) : bits16 (m ||| 1 <<< s) = (bits16 m).set s (.bool true) := by
  refine List.ext_getElem? fun i => ?_
  rw [List.getElem?_set]
  by_cases hi : i < 16
  · rw [bits16_at _ hi, testBit_set]
    by_cases e : s = i
    · subst e
      simp [bits16_len, hi]
    · rw [if_neg e, bits16_at _ hi, decide_eq_false (fun q => e q.symm), Bool.or_false]
  · rw [List.getElem?_eq_none (by rw [bits16_len]; omega)]
    split
    · rw [if_neg (by rw [bits16_len]; omega)]
    · rw [List.getElem?_eq_none (by rw [bits16_len]; omega)]
theorem ints16_set (f : Nat → Int) (v : Int) {s : Nat} (hs : s < 16) : ints16 (upd f s v) = (ints16 f).set s (.int .i64 v) := by
  refine List.ext_getElem? fun i => ?_
  rw [List.getElem?_set]
  by_cases hi : i < 16
  · rw [ints16_at _ hi, upd_at]
    by_cases e : s = i
    · subst e
      simp [ints16_len, hi]
    · rw [if_neg e, ints16_at _ hi, if_neg (fun q => e q.symm)]
  · rw [List.getElem?_eq_none (by rw [ints16_len]; omega)]
    split
    · rw [if_neg (by rw [ints16_len]; omega)]
    · rw [List.getElem?_eq_none (by rw [ints16_len]; omega)]

theorem encRh_phase (x : RX) (v : Int) : encRh { x with th := { x.th with phase := v } } = (encRh x).set 0 (.int .i64 v) := rfl
theorem encRh_reads (x : RX) {s : Nat} (hs : s < 16) : encRh { x with th := { x.th with reads := x.th.reads ||| 1 <<< s } } = (encRh x).set (2 + s) (.bool true) := by
  unfold encRh
  rw [List.set_append_left _ _ (by simp [bits16_len, ints16_len]; try omega), List.set_append_left _ _ (by simp [bits16_len, ints16_len]; try omega), List.set_append_left _ _ (by simp [bits16_len, ints16_len]; try omega), List.set_append_left _ _ (by simp [bits16_len, ints16_len]; try omega), List.set_append_right _ _ (by simp)]
  rw [show 2 + s - [Value.int .i64 x.th.phase, .int .i64 x.th.clock].length = s from by simp, ← bits16_set _ hs]
theorem encRh_dv (x : RX) (y : RX) (h1 : y.th.phase = x.th.phase) (h2 : y.th.clock = x.th.clock) (h3 : y.th.reads = x.th.reads) (h4 : y.th.held = x.th.held) (h5 : y.th.old = x.th.old) (h6 : y.th.now = x.th.now) (h7 : y.back = x.back) : encRh y = (encRh x).set 18 y.dv := by
  unfold encRh
  rw [h1, h2, h3, h4, h5, h6, h7]
  rw [List.set_append_left _ _ (by simp [bits16_len, ints16_len]; try omega), List.set_append_left _ _ (by simp [bits16_len, ints16_len]; try omega), List.set_append_left _ _ (by simp [bits16_len, ints16_len]; try omega), List.set_append_right _ _ (by simp [bits16_len])]
  simp [bits16_len]
theorem encRh_same (x : RX) (y : RX) (h1 : y.th.phase = x.th.phase) (h2 : y.th.clock = x.th.clock) (h3 : y.th.reads = x.th.reads) (h4 : y.th.held = x.th.held) (h5 : y.th.old = x.th.old) (h6 : y.th.now = x.th.now) (h7 : y.back = x.back) (h8 : y.dv = x.dv) : encRh y = encRh x := by
  unfold encRh
  rw [h1, h2, h3, h4, h5, h6, h7, h8]
theorem encRh_helds (x : RX) {s : Nat} (hs : s < 16) : encRh { x with th := { x.th with held := x.th.held ||| 1 <<< s } } = (encRh x).set (19 + s) (.bool true) := by
  unfold encRh
  rw [List.set_append_left _ _ (by simp [bits16_len, ints16_len]; try omega), List.set_append_left _ _ (by simp [bits16_len, ints16_len]; try omega), List.set_append_right _ _ (by simp [bits16_len])]
  rw [show 19 + s - ([Value.int .i64 x.th.phase, .int .i64 x.th.clock] ++ bits16 x.th.reads ++ [x.dv]).length = s from by simp [bits16_len], ← bits16_set _ hs]
theorem encRh_olds (x : RX) (v : Int) {s : Nat} (hs : s < 16) : encRh { x with th := { x.th with old := upd x.th.old s v } } = (encRh x).set (35 + s) (.int .i64 v) := by
  unfold encRh
  rw [List.set_append_left _ _ (by simp [bits16_len, ints16_len]; try omega), List.set_append_right _ _ (by simp [bits16_len])]
  rw [show 35 + s - ([Value.int .i64 x.th.phase, .int .i64 x.th.clock] ++ bits16 x.th.reads ++ [x.dv] ++ bits16 x.th.held).length = s from by simp [bits16_len], ← ints16_set _ _ hs]
theorem encRh_now (x : RX) (v : Int) : encRh { x with th := { x.th with now := v } } = (encRh x).set 51 (.int .i64 v) := by
  unfold encRh
  rw [List.set_append_right _ _ (by simp [bits16_len, ints16_len])]
  simp [bits16_len, ints16_len]
theorem encRh_backs (x : RX) (k : Nat) (l : List (Int × Int)) : encRh { x with th := { x.th with log := l }, back := k } = (encRh x).set 52 (.int .i64 k) := by
  unfold encRh
  rw [List.set_append_right _ _ (by simp [bits16_len, ints16_len])]
  simp [bits16_len, ints16_len]

/-- one cell of a thread is written; its log stays -/
theorem RtAt.poke (h : RtAt w base b m t tw ts ev) {n : Nat} {x : RX} (hx : ts[n]? = some x) (y : RX) (hd : y.dv = x.dv) (hw : y.ws = x.ws) (hl : y.th.log = y.ws.drop y.back) (hk : y.back ≤ y.ws.length ∧ y.ws.length ≤ 64) (hp : y.th.phase ≠ 3 → y.back = 0) (j : Nat) (u : Value) (hj : j < 53) (he : encRh y = (encRh x).set j u) :
    RtAt (w.setCell ⟨t, n * 53 + j, none⟩ u) base b m t { tw with ths := tw.ths.set n y.th } (ts.set n y) ev := by
  have hc : Chg (fun k => k = t ∨ x.dv.ownBlock = some k) w (w.setCell ⟨t, n * 53 + j, none⟩ u) := (Chg.refl _ w).setCell (p := ⟨t, n * 53 + j, none⟩) (.inl (.inl rfl)) _
  refine h.thread hx y hc ?_ ?_ (fun g hg => .inl (by rw [← hd]; exact hg))
  · rw [block_setCell u h.ths, flat_set encRh_len ts hx he hj]
    simp
  · have hk' := (h.log n x hx).keep (w' := w.setCell ⟨t, n * 53 + j, none⟩ u) hc.size fun g hg => Below.heap_setCell _ _ _ _ fun e => (h.lg_ne n g x hx hg).2.2.1 e
    refine ⟨fun g hg => hk'.1 g (by rw [← hd]; exact hg), by rw [hd, hw]; exact hk'.2.1, hl, hk, hp⟩

theorem RtAt.memcell (h : RtAt w base b m t tw ts ev) {k : Nat} (hk : k < tw.mem.length) : w.cell? ⟨m, k, none⟩ = some (.int .i64 (tw.mem.getD k 0)) :=
  cell_of_block h.mem (by simp [hk])
theorem RtAt.th_at (h : RtAt w base b m t tw ts ev) {n : Nat} {x : RX} (hx : ts[n]? = some x) : tw.ths[n]? = some x.th := by rw [h.same]; simp [hx]

/-- where the stores lie -/
theorem RtAt.logcell (h : RtAt w base b m t tw ts ev) {n : Nat} {x : RX} (hx : ts[n]? = some x) : ∃ ao c, x.dv = .slice ao x.ws.length c ∧
    (0 < x.ws.length → ∃ g o, ao = some ⟨g, o, none⟩ ∧ g < w.heap.size ∧ ∀ (k : Nat) e, x.ws[k]? = some e → w.cell? ⟨g, o + k * 2, none⟩ = some (.int .i64 e.1) ∧ w.cell? ⟨g, o + k * 2 + 1, none⟩ = some (.int .i64 e.2)) := by
  have hr := Rd.of_own (h.log n x hx).2.1
  have hr2 := hr
  obtain ⟨ao, c, hv⟩ := hr.shape
  rw [hv] at hr hr2
  obtain ⟨g1, ao', cap', hv', g2, g3⟩ := hr
  simp only [Value.slice.injEq, true_and] at hv'
  obtain ⟨rfl, rfl⟩ := hv'
  refine ⟨ao, c, hv, fun hl => ?_⟩
  obtain ⟨g, o, rfl, hlt, _⟩ := g3 hl
  refine ⟨g, o, rfl, hlt, fun k e he => ?_⟩
  obtain ⟨g', o', e1, _, hc⟩ := RdT.at (enc := encCell) encCell_len hr2 he
  simp only [Option.some.injEq, Addr.mk.injEq, and_true] at e1
  obtain ⟨rfl, rfl⟩ := e1
  exact ⟨hc 0 _ rfl, hc 1 _ rfl⟩

set_option maxRecDepth 100000 in
set_option maxHeartbeats 1000000 in
theorem rnewer_any (h : RtAt w base b m t tw ts ev) {n : Nat} {x : RX} (hx : ts[n]? = some x) (hw : NwOk n tw.locks x.th) {s : Nat} (hs : s < 16) :
    Calls Tryz.prog 228 #[.pointer (some ⟨b, 0, none⟩), .int .i64 (n : Int), .int .i64 (s : Int)] w fun e w' => e = .returned (.bool (stale tw.locks x.th s)) ∧ w' = w := by
  have c1 := h.wcell 18 _ rfl
  have c2 := h.wcell (2 + s) _ (encW_lock _ _ _ _ _ s hs)
  have c4 : w.cell? ⟨t, n * 53 + 35 + s, none⟩ = some (.int .i64 (x.th.old s)) := by rw [Nat.add_assoc]; exact h.cell hx _ _ (encRh_old x hs)
  have c5 : w.cell? ⟨t, n * 53 + 1, none⟩ = some (.int .i64 x.th.clock) := h.cell hx 1 _ rfl
  have hn : n < ts.length := (List.getElem?_eq_some_iff.1 hx).1
  have hlo := hw.lo s hs
  have hh := hw.held s hs
  clear h hx
  by_cases hbit : x.th.held.testBit s = true
  · have hl := hh.1 hbit
    have he := hw.even s hs hbit
    have ho := hw.old s hs hbit
    have e1 : isLocked (tw.locks s) = true := by unfold isLocked; rw [hl]; simp
    have e2 : isLocked (x.th.old s) = false := by unfold isLocked; simp; omega
    have e3 : tw.locks s / 2 = n := by omega
    have hst : stale tw.locks x.th s = decide (x.th.clock < x.th.old s / 2) := by simp [stale, hbit, e2, since]
    rw [hst]
    have HO := hidI ho
    have E1 := hidI e1
    have E2 := hidI e2
    have E3 := hidI e3
    clear hl he hbit hh hlo hw ho e1 e2 e3 hst
    go_enter Tryz.func228, Tryz.ntmps228
    go_wp2_with fail
    refine (rlocked_yes w E1.out).mono ?_
    rintro e w1 ⟨rfl, rfl⟩
    rw [E3.out]
    go_wp2_with fail
    refine (rlocked_no _ E2.out (by have := HO.out; omega) (by have := HO.out; omega)).mono ?_
    rintro e w1 ⟨rfl, rfl⟩
    go_wp2_with fail
    go_ret
    exact ⟨rfl, rfl⟩
  · have hnl : tw.locks s ≠ 2 * n + 1 := fun e => hbit (hh.2 e)
    cases hl : isLocked (tw.locks s) with
    | true =>
      have he : stale tw.locks x.th s = true := by simp [stale, hbit, hl]
      have e3 : (tw.locks s / 2 == (n : Int)) = false := by
        unfold isLocked at hl
        simp at hl ⊢
        omega
      rw [he]
      have HL := hidI hl
      clear hl he hbit hh hlo hw hnl
      go_enter Tryz.func228, Tryz.ntmps228
      go_wp2_with fail
      refine (rlocked_yes w HL.out).mono ?_
      rintro e w1 ⟨rfl, rfl⟩
      go_wp2_with fail
      go_ret
      exact ⟨rfl, rfl⟩
    | false =>
      have he : stale tw.locks x.th s = decide (x.th.clock < tw.locks s / 2) := by simp [stale, hbit, hl, since]
      rw [he]
      have HL := hidI hl
      have HO := hidI hlo
      clear hl he hbit hh hw hnl hlo
      go_enter Tryz.func228, Tryz.ntmps228
      go_wp2_with fail
      refine (rlocked_no w HL.out (by have := HO.out; omega) (by have := HO.out; omega)).mono ?_
      rintro e w1 ⟨rfl, rfl⟩
      go_wp2_with fail
      go_ret
      exact ⟨rfl, rfl⟩
end Go.Proofs.YtilkpmjkiohfdaaGreatDoor

/- Package tso: Flush, Word, Register, At, Waiting. -/
import Derived.Test.YtopdcjimpdalpaaGreatTsoG
import Derived.StillTailTactics
namespace Go.Proofs.YtopdcjimpdalpaaGreat
open Go.RowKit
set_option linter.unusedVariables false
set_option linter.unusedSimpArgs false

variable {w w' : World} {base b : Nat} {own own' : Nat → Nat} {mm : MM} {xs : List TX} {mv tv ev : Value}

theorem ths_len {mm : MM} (h : mm.ths = xs.map TX.th) : mm.ths.length = xs.length := by rw [h]; simp
theorem thr_none (h : MAt w base b own mm xs mv tv ev) {z : Int} (hz : mm.thr z = none) : z < 0 ∨ (xs.length : Int) ≤ z := by
  unfold MM.thr at hz
  split at hz
  · exact .inl ‹_›
  · have := List.getElem?_eq_none_iff.1 hz
    rw [ths_len h.same] at this
    omega
theorem thr_some (h : MAt w base b own mm xs mv tv ev) {z : Int} {t : MT} (hz : mm.thr z = some t) : ∃ (n : Nat) (x : TX), z = (n : Int) ∧ xs[n]? = some x ∧ x.th = t := by
  obtain ⟨h0, h1⟩ := thr_mem hz
  obtain ⟨n, rfl⟩ := Int.eq_ofNat_of_zero_le h0
  rw [Int.toNat_natCast, h.same, List.getElem?_map] at h1
  cases hx : xs[n]? with
  | none => rw [hx] at h1; cases h1
  | some x => rw [hx] at h1; simp at h1; exact ⟨n, x, rfl, hx, h1⟩
set_option maxHeartbeats 1000000 in
theorem flush_none (h : MAt w base b own mm xs mv tv ev) {z : Int} (hz : z < 0 ∨ (xs.length : Int) ≤ z) :
    Calls Tryz.prog 66 #[.pointer (some ⟨b, 0, none⟩), .int .i64 z] w fun r w' => r = .returned (.bool false) ∧ w' = w := by
  have H := hidI h
  clear h
  go_enter Tryz.func66, Tryz.ntmps66
  go_wp2_with fail
  refine (of_no H.out hz).mono ?_
  rintro e w1 ⟨rfl, rfl⟩
  go_wp2_with fail
  go_ret
  exact ⟨rfl, rfl⟩

set_option maxHeartbeats 1000000 in
theorem flush_empty {tb cap n : Nat} {x : TX} (h : MAt w base b own mm xs mv (.slice (some ⟨tb, 0, none⟩) xs.length cap) ev) (hx : xs[n]? = some x) (hw : x.th.wait = []) :
    Calls Tryz.prog 66 #[.pointer (some ⟨b, 0, none⟩), .int .i64 (n : Int)] w fun r w' => r = .returned (.bool false) ∧ Below w.heap.size w w' := by
  have e10 := h.cell hx 10 _ rfl
  obtain ⟨c, f, hr⟩ := (h.th n x hx).ring
  rw [hw] at hr
  have HR := hidI hr
  have H := hidI h
  have HX := hidI hx
  clear h hx hr hw
  go_enter Tryz.func66, Tryz.ntmps66
  go_wp2_with fail
  refine (of_yes H.out HX.out).mono ?_
  rintro e w1 ⟨rfl, rfl⟩
  go_wp2_with fail
  refine (take_empty HR.out).mono ?_
  rintro e w1 ⟨rfl, hb⟩
  have HB := hidI hb
  clear e10 hb HR
  go_wp2_with fail
  go_ret
  exact ⟨rfl, HB.out.alloc HB.out.size _⟩

set_option maxRecDepth 100000 in
set_option maxHeartbeats 1000000 in
theorem flush_some {tb cap n mb mc : Nat} {x : TX} (h : MAt w base b own mm xs (.slice (some ⟨mb, 0, none⟩) mm.mem.length mc) (.slice (some ⟨tb, 0, none⟩) xs.length cap) ev) (hx : xs[n]? = some x) {a v : Int} {q : List (Int × Int)} (hw : x.th.wait = (a, v) :: q) (ha : 0 ≤ a ∧ a < mm.mem.length) :
    Calls Tryz.prog 66 #[.pointer (some ⟨b, 0, none⟩), .int .i64 (n : Int)] w fun r w' => r = .returned (.bool true) ∧ MGoes w base b own ({ mm with mem := mm.mem.set a.toNat v }.put n { x.th with wait := q }) w' := by
  have e10 := h.cell hx 10 _ rfl
  obtain ⟨c, f, hr⟩ := (h.th n x hx).ring
  rw [hw] at hr
  have HR := hidI hr
  have H := hidI h
  have HX := hidI hx
  obtain ⟨an, rfl⟩ := Int.eq_ofNat_of_zero_le ha.1
  have ham : an < mm.mem.length := by omega
  clear h hx hr hw
  go_enter Tryz.func66, Tryz.ntmps66
  go_wp2_with fail
  refine (of_yes H.out HX.out).mono ?_
  rintro e w1x ⟨rfl, rfl⟩
  go_wp2_with fail
  refine (take_some HR.out).mono ?_
  rintro e w1 ⟨rfl, ⟨c', f', hr⟩, hc⟩
  obtain ⟨w5, hw5⟩ : ∃ w5, w5 = w1.alloc (.cells #[.int .i64 (an : Int), .int .i64 v] 99) := ⟨_, rfl⟩
  have hb5 : Below w1.heap.size w1 w5 := hw5 ▸ ((Below.refl _ _).alloc (Nat.le_refl _) _)
  have h2 := (H.out.ringed HX.out hc hr).below hb5
  have c1 := h2.wcell 1 _ rfl
  have cM := h2.mcell ham
  have fM := h2.mfree (by show 0 < mm.mem.length; omega) an
  have k0 : w5.cell? ⟨w1.heap.size, 0, none⟩ = some (.int .i64 (an : Int)) := by rw [hw5]; exact cell_of_block (heap_alloc_new _ _) rfl
  have k1 : w5.cell? ⟨w1.heap.size, 1, none⟩ = some (.int .i64 v) := by rw [hw5]; exact cell_of_block (heap_alloc_new _ _) rfl
  have hb6 : w1.heap.size ≤ w5.heap.size := hb5.size
  have H2 := hidI h2
  have HC := hidI ((hc.trans (Chg.of_below hb5)).imp (T := fun k => own k ≠ 0 ∧ ¬ (5 ≤ own k ∧ own k % 3 = 2)) (fun k _ e => by rw [e, (H.out.th n x HX.out).ringT.2]; omega))
  have HW5 := hidI hw5
  clear hr hc h2 e10 HR hb5
  simp only [MM.put] at c1 cM
  go_wp2_with fail
  rw [← HW5.out]
  clear HW5 hw5
  go_still_tail 8, (by kernel_rfl)
  go_wp2_with fail
  go_ret
  have h6 := H2.out.drew.word ham v
  refine ⟨rfl, ⟨own, _, _, _, _, h6, fun _ _ => rfl⟩, (HC.out.drew).setCell (p := ⟨mb, an, none⟩) (.inl ?_) _⟩
  show own mb ≠ 0 ∧ ¬ (5 ≤ own mb ∧ own mb % 3 = 2)
  rw [H.out.memT mb rfl]; decide

theorem flush_any {N : Nat} (h : MAt w base b own mm xs mv tv ev) (hk : MOk N mm) (z : Int) :
    Calls Tryz.prog 66 #[.pointer (some ⟨b, 0, none⟩), .int .i64 z] w fun r w' => r = .returned (.bool (mm.flush z).1) ∧ MGoes w base b own (mm.flush z).2 w' := by
  cases ht : mm.thr z with
  | none =>
    refine (flush_none h (thr_none h ht)).mono ?_
    rintro r w' ⟨rfl, rfl⟩
    have e : mm.flush z = (false, mm) := by unfold MM.flush; rw [ht]
    rw [e]
    exact ⟨rfl, MGoes.same h (Below.refl _ _)⟩
  | some t =>
    obtain ⟨n, x, rfl, hx, rfl⟩ := thr_some h ht
    obtain ⟨tb, cap, rfl, -⟩ := h.tslice hx
    have hth := hk.th _ (List.mem_of_getElem? (h.th_at hx))
    obtain ⟨mb, mc, rfl, -⟩ := h.mslice (by have := hk.mem; omega)
    cases hw : x.th.wait with
    | nil =>
      have e : mm.flush (n : Int) = (false, mm) := by unfold MM.flush; rw [ht]; simp [hw]
      rw [e]
      refine (flush_empty h hx hw).mono ?_
      rintro r w' ⟨rfl, hb⟩
      exact ⟨rfl, MGoes.same h hb⟩
    | cons c q =>
      have e : mm.flush (n : Int) = (true, { mm with mem := mm.mem.set c.1.toNat c.2 }.put n { x.th with wait := q }) := by unfold MM.flush; rw [ht]; simp [hw]
      rw [e]
      exact flush_some h hx hw (hth.wait c (by rw [hw]; exact List.mem_cons_self))

end Go.Proofs.YtopdcjimpdalpaaGreat

/- turnstilelaw01.SameAttempts. -/
import Derived.Test.YtilkpmjkiohfdaaGreatDoorHistU
namespace Go.Proofs.YtilkpmjkiohfdaaGreatDoor
open Go.RowKit
set_option linter.unusedVariables false
set_option linter.unusedSimpArgs false

set_option maxRecDepth 100000 in
set_option maxHeartbeats 2000000 in
theorem sameAttempts_true {w : World} {b1 b2 : Nat} {ao bo : Option Addr} {ca cb n m : Nat} {ps qs : List (Att × Value)} (hp : Owned w b1 (.slice ao n ca) ps) (hq : Owned w b2 (.slice bo m cb) qs) (hn : n = ps.length) (hm : m = qs.length) (he : ps.map Prod.fst = qs.map Prod.fst)
    (hl : ps.length ≤ 262144) (hd : ∀ (j : Nat) p, ps[j]? = some p → p.1.done.length ≤ 2 ^ 20) :
    Calls Tryz.prog 34 #[.slice ao n ca, .slice bo m cb] w fun e w' => e = .returned (.bool true) ∧ Below w.heap.size w w' := by
  subst hn
  subst hm
  have hlen : qs.length = ps.length := by simpa using (congrArg List.length he).symm
  rw [hlen] at hq ⊢
  have HP := hidI hp
  have HQ := hidI hq
  have HE := hidI he
  have HD := hidI hd
  clear hp hq he hd
  go_enter Tryz.func34, Tryz.ntmps34
  go_wp2
  go_loopw [13] (fun i wr => ∃ k : Nat, k ≤ ps.length ∧ i = .int .i64 k ∧ Hid (Below w.heap.size w wr)) (fun i _ => ps.length - (intOf i).toNat)
  case atStart => exact ⟨0, Nat.zero_le _, rfl, hidI (Below.refl _ _)⟩
  case round =>
    obtain ⟨k, hk, rfl, HW⟩ := hrel
    by_cases hlt : k < ps.length
    · obtain ⟨⟨p, dv⟩, hp⟩ := some_at hlt
      obtain ⟨⟨q, du⟩, hq⟩ := some_at (l := qs) (k := k) (by omega)
      have hpq : q = p := by
        have h1 := congrArg (fun l => l[k]?) HE.out
        simp only [List.getElem?_map, hp, hq, Option.map_some, Option.some.injEq] at h1
        exact h1.symm
      subst hpq
      obtain ⟨o1, e1, rfl, hs1, hc1⟩ := RdT.at (enc := enc2) enc2_len (Rd.of_own HP.out.row) hp
      have hrow2 := HQ.out.row
      rw [← hlen] at hrow2
      obtain ⟨o2, e2, rfl, hs2, hc2⟩ := RdT.at (enc := enc2) enc2_len (Rd.of_own hrow2) hq
      have x0 := fun t => ext_cell (cell_later HW.out (hc1 0 _ rfl)) t
      have x1 := fun t => ext_cell (cell_later HW.out (hc1 1 _ rfl)) t
      have x2 := fun t => ext_cell (cell_later HW.out (hc1 2 _ rfl)) t
      have x3 := fun t => ext_cell (cell_later HW.out (hc1 3 _ rfl)) t
      have x4 := fun t => ext_cell (cell_later HW.out (hc1 4 _ rfl)) t
      have x5 := fun t => ext_cell (cell_later HW.out (hc1 5 _ rfl)) t
      have x6 := fun t => ext_cell (cell_later HW.out (hc1 6 _ rfl)) t
      have x7 := fun t => ext_cell (cell_later HW.out (hc1 7 _ rfl)) t
      have y0 := fun t => ext_cell (cell_later HW.out (hc2 0 _ rfl)) t
      have y1 := fun t => ext_cell (cell_later HW.out (hc2 1 _ rfl)) t
      have y2 := fun t => ext_cell (cell_later HW.out (hc2 2 _ rfl)) t
      have y3 := fun t => ext_cell (cell_later HW.out (hc2 3 _ rfl)) t
      have y4 := fun t => ext_cell (cell_later HW.out (hc2 4 _ rfl)) t
      have y5 := fun t => ext_cell (cell_later HW.out (hc2 5 _ rfl)) t
      have y6 := fun t => ext_cell (cell_later HW.out (hc2 6 _ rfl)) t
      have y7 := fun t => ext_cell (cell_later HW.out (hc2 7 _ rfl)) t
      simp only [Nat.add_zero] at x0 y0
      have HOP := hidI (HP.out.own k _ hp)
      have HOQ := hidI (HQ.out.own k _ hq)
      have HDL := hidI (HD.out k _ hp)
      clear hc1 hc2 hp hq hs1 hs2 hrow2
      have HRP := hidI (fun t => Rd.below (Rd.below (Rd.of_own HOP.out) HW.out) (ext_below wr t))
      have HRQ := hidI (fun t => Rd.below (Rd.below (Rd.of_own HOQ.out) HW.out) (ext_below wr t))
      go_wp2_with fail
      refine wp_region_grow (by kernel_rfl) (by kernel_rfl) ?_
      repeat (go_big_quiet_step ((first | (go_at_call 142; exact grow_of (sameAttempt_true q (HRP.out _) (HRQ.out _) HDL.out)))))
      refine wpQuiet_nil ?_
      intro wU hb
      have HU := hidI (HW.out.trans (hb.mono HW.out.size))
      clear hb
      go_wp2_with fail
      exact ⟨⟨k + 1, by omega, by go_num, HU⟩, by simp [intOf]; omega⟩
    · obtain rfl : k = ps.length := by omega
      go_wp2
      go_ret
      exact ⟨rfl, HW.out⟩
end Go.Proofs.YtilkpmjkiohfdaaGreatDoor

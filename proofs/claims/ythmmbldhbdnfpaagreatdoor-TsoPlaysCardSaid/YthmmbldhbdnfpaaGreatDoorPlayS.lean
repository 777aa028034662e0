/- turnstilelaw01.SameSeens, SameTrace, SamePicks of equal values. -/
import Derived.Test.YthmmbldhbdnfpaaGreatDoorMTsoW
import Derived.Test.YthmmbldhbdnfpaaGreatDoorPlayA
namespace Go.Proofs.YthmmbldhbdnfpaaGreatDoor
open Go.RowKit
set_option linter.unusedVariables false
set_option linter.unusedSimpArgs false

theorem SeenAt.below {w w' : World} {v : Value} {ls : List SX} (h : SeenAt w v ls) (hb : Below w.heap.size w w') : SeenAt w' v ls := ⟨Rd.below h.rows hb, fun s hs => Rd.below (h.each s hs) hb⟩

set_option maxRecDepth 100000 in
set_option maxHeartbeats 2000000 in
theorem sameSeens_true {w : World} {ao bo : Option Addr} {ca cb n m : Nat} {ps qs : List SX} (hp : SeenAt w (.slice ao n ca) ps) (hq : SeenAt w (.slice bo m cb) qs) (hn : n = ps.length) (hm : m = qs.length) (he : ps.map (fun s => (s.out, s.fin)) = qs.map (fun s => (s.out, s.fin)))
    (hl : ps.length ≤ 262144) (hd : ∀ s ∈ ps, s.out.length ≤ 2000000000) :
    Calls Tryz.prog 68 #[.slice ao n ca, .slice bo m cb] w fun e w' => e = .returned (.bool true) ∧ Below w.heap.size w w' := by
  subst hn
  subst hm
  have hlen : qs.length = ps.length := by simpa using (congrArg List.length he).symm
  have HP := hidI hp
  have HQ := hidI hq
  rw [hlen]
  have HE := hidI he
  have HD := hidI hd
  clear hp hq he hd
  go_enter Tryz.func68, Tryz.ntmps68
  go_wp2
  go_loopw [13] (fun i wr => ∃ k : Nat, k ≤ ps.length ∧ i = .int .i64 k ∧ Hid (Below w.heap.size w wr)) (fun i _ => ps.length - (intOf i).toNat)
  case atStart => exact ⟨0, Nat.zero_le _, rfl, hidI (Below.refl _ _)⟩
  case round =>
    obtain ⟨k, hk, rfl, HW⟩ := hrel
    by_cases hlt : k < ps.length
    · obtain ⟨p, hp⟩ := some_at hlt
      obtain ⟨q, hq⟩ := some_at (l := qs) (k := k) (by omega)
      have hpq : p.out = q.out ∧ p.fin = q.fin := by
        have h1 := congrArg (fun l => l[k]?) HE.out
        simp only [List.getElem?_map, hp, hq, Option.map_some, Option.some.injEq, Prod.mk.injEq] at h1
        exact h1
      have hP2 := HP.out.below HW.out
      have hQ2 := HQ.out.below HW.out
      obtain ⟨o1, e1, rfl, hs1, hc1⟩ := RdT.at encS_len hP2.rows hp
      obtain ⟨o2, e2, rfl, hs2, hc2⟩ := RdT.at encS_len hQ2.rows hq
      have hr1 := hP2.each p (List.mem_of_getElem? hp)
      have hr2 := hQ2.each q (List.mem_of_getElem? hq)
      obtain ⟨v1, out1, fin1⟩ := p
      obtain ⟨v2, out2, fin2⟩ := q
      simp only at hpq hr1 hr2
      obtain ⟨rfl, rfl⟩ := hpq
      have hdl : out1.length ≤ 2000000000 := HD.out _ (List.mem_of_getElem? hp)
      obtain ⟨aq1, cq1, hv1⟩ := hr1.shape
      obtain ⟨aq2, cq2, hv2⟩ := hr2.shape
      subst hv1
      subst hv2
      have x0 := fun t => ext_cell (hc1 0 _ rfl) t
      have x1 := fun t => ext_cell (hc1 1 _ rfl) t
      have y0 := fun t => ext_cell (hc2 0 _ rfl) t
      have y1 := fun t => ext_cell (hc2 1 _ rfl) t
      simp only [Nat.add_zero] at x0 y0
      have HRP := hidI (fun t => Rd.below hr1 (ext_below wr t))
      have HRQ := hidI (fun t => Rd.below hr2 (ext_below wr t))
      have HDL := hidI (show out1.length ≤ 9223372036854775807 by omega)
      clear hc1 hc2 hp hq hs1 hs2 hr1 hr2 hP2 hQ2 hdl
      go_wp2_with fail
      refine wp_region_grow (by kernel_rfl) (by kernel_rfl) ?_
      repeat (go_big_quiet_step ((first | (go_at_call 196; exact grow_of (sameSeen_true (HRP.out _) (HRQ.out _) HDL.out _)))))
      refine wpQuiet_nil ?_
      intro wU hb
      have HU := hidI (HW.out.trans (hb.mono HW.out.size))
      clear hb
      go_wp2_with fail
      exact ⟨⟨k + 1, by omega, by go_num, HU⟩, by simp [intOf]; omega⟩
    · obtain rfl : k = ps.length := by omega
      go_wp2
      go_ret
      exact ⟨rfl, HW.out⟩

set_option maxHeartbeats 1000000 in
theorem samePicks_true {w : World} {ao bo : Option Addr} {n m ca cb : Nat} {l : List PickD} (ha : Rd w 3 (.slice ao n ca) n (l.flatMap encPk)) (hb : Rd w 3 (.slice bo m cb) m (l.flatMap encPk)) (hn : n = l.length) (hm : m = l.length) (hl : l.length ≤ 9223372036854775807) :
    Calls Tryz.prog 162 #[.slice ao n ca, .slice bo m cb] w fun e w' => e = .returned (.bool true) ∧ Below w.heap.size w w' := by
  subst hn; subst hm
  have HA : Hid (RdT encPk w 3 (.slice ao l.length ca) l) := hidI ha
  have HB : Hid (RdT encPk w 3 (.slice bo l.length cb) l) := hidI hb
  clear ha hb
  go_enter Tryz.func162, Tryz.ntmps162
  go_wp2
  go_loopw [13] (fun i wr => ∃ k n : Nat, k ≤ l.length ∧ i = .int .i64 k ∧ wr = w.drewN n) (fun i _ => l.length - (intOf i).toNat)
  case atStart => exact ⟨0, 0, Nat.zero_le _, rfl, rfl⟩
  case round =>
    obtain ⟨k, n, hk, rfl, rfl⟩ := hrel
    by_cases hlt : k < l.length
    · obtain ⟨x, hx⟩ := some_at hlt
      obtain ⟨b1, o1, rfl, hs1, hc1⟩ := HA.out.at encPk_len hx
      obtain ⟨b2, o2, rfl, hs2, hc2⟩ := HB.out.at encPk_len hx
      have x0 := hc1 0 _ rfl
      have x1 := hc1 1 _ rfl
      have x2 := hc1 2 _ rfl
      have y0 := hc2 0 _ rfl
      have y1 := hc2 1 _ rfl
      have y2 := hc2 2 _ rfl
      simp only [Nat.add_zero] at x0 y0
      clear hc1 hc2 hx hs1 hs2
      go_wp2_with fail
      go_quiet (fail)
      go_wp2
      exact ⟨⟨k + 1, _, by omega, by go_num, rfl⟩, by simp [intOf]; omega⟩
    · obtain rfl : k = l.length := by omega
      go_wp2
      go_ret
      exact ⟨rfl, below_drewN (Below.refl _ _) n⟩
end Go.Proofs.YthmmbldhbdnfpaaGreatDoor

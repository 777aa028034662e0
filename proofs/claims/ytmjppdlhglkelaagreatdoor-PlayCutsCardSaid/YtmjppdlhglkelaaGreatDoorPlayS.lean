/- turnstilelaw01.SameSeens, SameTrace, SamePicks of equal values. -/
import Derived.Test.YtmjppdlhglkelaaGreatDoorTsoNa
import Derived.Test.YtmjppdlhglkelaaGreatDoorPlayA
namespace Go.Proofs.YtmjppdlhglkelaaGreatDoor
open Go.RowKit
set_option linter.unusedVariables false
set_option linter.unusedSimpArgs false

theorem SeenAt.below {w w' : World} {v : Value} {ls : List SX} (h : SeenAt w v ls) (hb : Below w.heap.size w w') : SeenAt w' v ls := ⟨Rd.below h.rows hb, fun s hs => Rd.below (h.each s hs) hb⟩

set_option maxHeartbeats 1000000 in
theorem samePicks_true {w : World} {ao bo : Option Addr} {n m ca cb : Nat} {l : List PickD} (ha : Rd w 3 (.slice ao n ca) n (l.flatMap encPk)) (hb : Rd w 3 (.slice bo m cb) m (l.flatMap encPk)) (hn : n = l.length) (hm : m = l.length) (hl : l.length ≤ 9223372036854775807) :
    Calls Tryz.prog 10 #[.slice ao n ca, .slice bo m cb] w fun e w' => e = .returned (.bool true) ∧ Below w.heap.size w w' := by
  subst hn; subst hm
  have HA : Hid (RdT encPk w 3 (.slice ao l.length ca) l) := hidI ha
  have HB : Hid (RdT encPk w 3 (.slice bo l.length cb) l) := hidI hb
  clear ha hb
  go_enter Tryz.func10, Tryz.ntmps10
  go_wp2
  go_loopw [13] (fun i wr => ∃ k n : Nat, k ≤ l.length ∧ i = .int .i64 k ∧ wr = w.drewN n) (fun i _ => l.length - (intOf i).toNat)
  case atStart => exact ⟨0, 0, Nat.zero_le _, rfl, rfl⟩
  case round =>
    obtain ⟨k, n, hk, rfl, rfl⟩ := hrel
    by_cases hlt : k < l.length
    · obtain ⟨x, hx⟩ := some_at hlt
      obtain ⟨b1, o1, rfl, hs1, hc1⟩ := HA.out.at encPk_len hx
      obtain ⟨b2, o2, rfl, hs2, hc2⟩ := HB.out.at encPk_len hx
      have x0 := hc1 0 _ rfl
      have x1 := hc1 1 _ rfl
      have x2 := hc1 2 _ rfl
      have y0 := hc2 0 _ rfl
      have y1 := hc2 1 _ rfl
      have y2 := hc2 2 _ rfl
      simp only [Nat.add_zero] at x0 y0
      clear hc1 hc2 hx hs1 hs2
      go_wp2_with fail
      go_quiet (fail)
      go_wp2
      exact ⟨⟨k + 1, _, by omega, by go_num, rfl⟩, by simp [intOf]; omega⟩
    · obtain rfl : k = l.length := by omega
      go_wp2
      go_ret
      exact ⟨rfl, below_drewN (Below.refl _ _) n⟩
end Go.Proofs.YtmjppdlhglkelaaGreatDoor

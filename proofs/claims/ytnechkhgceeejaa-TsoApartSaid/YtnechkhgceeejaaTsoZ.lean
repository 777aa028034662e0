/- Package tso's laws: SameEvents, SameWides, SameSeen of equal values. -/
import Derived.Test.YtnechkhgceeejaaTsoU
namespace Go.Proofs.Ytnechkhgceeejaa
open Go.RowKit
set_option linter.unusedVariables false
set_option linter.unusedSimpArgs false

set_option maxHeartbeats 1000000 in
theorem sameEvents_true {w : World} {ao bo : Option Addr} {ca cb : Nat} {l : List Ev} (ha : RdT encEv w 4 (.slice ao l.length ca) l) (hb : RdT encEv w 4 (.slice bo l.length cb) l) (hm : l.length ≤ 9223372036854775807) :
    Calls Try.prog 20 #[.slice ao l.length ca, .slice bo l.length cb] w fun e w' => e = .returned (.bool true) ∧ Below w.heap.size w w' := by
  have HA := hidI ha
  have HB := hidI hb
  clear ha hb
  go_enter Try.func20, Try.ntmps20
  go_wp2
  go_loopw [13] (fun i wr => ∃ k n : Nat, k ≤ l.length ∧ i = .int .i64 k ∧ wr = w.drewN n) (fun i _ => l.length - (intOf i).toNat)
  case atStart => exact ⟨0, 0, Nat.zero_le _, rfl, rfl⟩
  case round =>
    obtain ⟨k, n, hk, rfl, rfl⟩ := hrel
    by_cases hlt : k < l.length
    · obtain ⟨x, hx⟩ := some_at hlt
      obtain ⟨b1, o1, rfl, hs1, hc1⟩ := HA.out.at encEv_len hx
      obtain ⟨b2, o2, rfl, hs2, hc2⟩ := HB.out.at encEv_len hx
      have x0 := hc1 0 _ rfl
      have x1 := hc1 1 _ rfl
      have x2 := hc1 2 _ rfl
      have x3 := hc1 3 _ rfl
      have y0 := hc2 0 _ rfl
      have y1 := hc2 1 _ rfl
      have y2 := hc2 2 _ rfl
      have y3 := hc2 3 _ rfl
      simp only [Nat.add_zero] at x0 y0
      clear hc1 hc2 hx hs1 hs2
      go_wp2_with fail
      go_quiet (fail)
      go_wp2
      exact ⟨⟨k + 1, _, by omega, by go_num, rfl⟩, by simp [intOf]; omega⟩
    · obtain rfl : k = l.length := by omega
      go_wp2
      go_ret
      exact ⟨rfl, below_drewN (Below.refl _ _) n⟩

theorem sameEvents_eq {w : World} {ao bo : Option Addr} {n m ca cb : Nat} {l : List Ev} (ha : Rd w 4 (.slice ao n ca) n (l.flatMap encEv)) (hb : Rd w 4 (.slice bo m cb) m (l.flatMap encEv)) (hn : n = l.length) (hm : m = l.length) (hl : l.length ≤ 9223372036854775807) :
    Calls Try.prog 20 #[.slice ao n ca, .slice bo m cb] w fun e w' => e = .returned (.bool true) ∧ Below w.heap.size w w' := by
  subst hn; subst hm
  exact sameEvents_true ha hb hl

set_option maxHeartbeats 1000000 in
theorem sameWides_true {w : World} {ao bo : Option Addr} {ca cb : Nat} {l : List Int} (ha : RdT encI w 1 (.slice ao l.length ca) l) (hb : RdT encI w 1 (.slice bo l.length cb) l) (hm : l.length ≤ 9223372036854775807) :
    Calls Try.prog 36 #[.slice ao l.length ca, .slice bo l.length cb] w fun e w' => e = .returned (.bool true) ∧ Below w.heap.size w w' := by
  have HA := hidI ha
  have HB := hidI hb
  clear ha hb
  go_enter Try.func36, Try.ntmps36
  go_wp2
  go_loopw [13] (fun i wr => ∃ k n : Nat, k ≤ l.length ∧ i = .int .i64 k ∧ wr = w.drewN n) (fun i _ => l.length - (intOf i).toNat)
  case atStart => exact ⟨0, 0, Nat.zero_le _, rfl, rfl⟩
  case round =>
    obtain ⟨k, n, hk, rfl, rfl⟩ := hrel
    by_cases hlt : k < l.length
    · obtain ⟨x, hx⟩ := some_at hlt
      obtain ⟨b1, o1, rfl, hs1, hc1⟩ := HA.out.at encI_len hx
      obtain ⟨b2, o2, rfl, hs2, hc2⟩ := HB.out.at encI_len hx
      have x0 := hc1 0 _ rfl
      have y0 := hc2 0 _ rfl
      simp only [Nat.add_zero, Nat.mul_one] at x0 y0
      clear hc1 hc2 hx hs1 hs2
      go_wp2_with fail
      go_quiet (fail)
      go_wp2
      exact ⟨⟨k + 1, _, by omega, by go_num, rfl⟩, by simp [intOf]; omega⟩
    · obtain rfl : k = l.length := by omega
      go_wp2
      go_ret
      exact ⟨rfl, below_drewN (Below.refl _ _) n⟩

set_option maxHeartbeats 1000000 in
theorem sameSeen_true {w : World} {ao bo : Option Addr} {ca cb : Nat} {l : List Int} (ha : RdT encI w 1 (.slice ao l.length ca) l) (hb : RdT encI w 1 (.slice bo l.length cb) l) (hm : l.length ≤ 9223372036854775807) (k : Int) :
    Calls Try.prog 19 #[.agg #[.slice ao l.length ca, .int .u8 k], .agg #[.slice bo l.length cb, .int .u8 k]] w fun e w' => e = .returned (.bool true) ∧ Below w.heap.size w w' := by
  have HA := hidI ha
  have HB := hidI hb
  have HM := hidI hm
  clear ha hb hm
  go_enter Try.func19, Try.ntmps19
  go_wp2_with fail
  have hb0 : Below w.heap.size w ((w.alloc (.cells #[.slice ao l.length ca, .int .u8 k] 40)).alloc (.cells #[.slice bo l.length cb, .int .u8 k] 40)) := ((Below.refl w.heap.size w).alloc (Nat.le_refl _) _).alloc (by simp) _
  refine (sameWides_true (Rd.below HA.out hb0) (Rd.below HB.out hb0) HM.out).mono ?_
  rintro e w1 ⟨rfl, hb1⟩
  have HB1 := hidI (hb0.trans (hb1.mono hb0.size))
  clear hb0 hb1
  go_wp2_with fail
  go_ret
  exact ⟨rfl, HB1.out⟩
end Go.Proofs.Ytnechkhgceeejaa

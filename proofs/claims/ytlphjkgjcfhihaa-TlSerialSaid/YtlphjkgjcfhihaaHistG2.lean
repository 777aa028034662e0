/- turnstilelaw01 over events and attempts: SameEvents, SameAttempt; turnstilelaw28.alive. -/
import Derived.Test.YtlphjkgjcfhihaaHistOf2
import Derived.ProofKit
namespace Go.Proofs.Ytlphjkgjcfhihaa
set_option linter.unusedVariables false
set_option linter.unusedSimpArgs false
open Go.RowKit

set_option maxRecDepth 100000 in
set_option maxHeartbeats 1000000 in
theorem sameEvents_true {w : World} {ao bo : Option Addr} {ca cb : Nat} {l : List Ev} (ha : RdT encEv w 4 (.slice ao l.length ca) l) (hb : RdT encEv w 4 (.slice bo l.length cb) l) (hm : l.length ≤ 9223372036854775807) :
    Calls Try.prog 17 #[.slice ao l.length ca, .slice bo l.length cb] w fun e w' => e = .returned (.bool true) ∧ Below w.heap.size w w' := by
  have HA := hidI ha
  have HB := hidI hb
  clear ha hb
  go_enter Try.func17, Try.ntmps17
  go_wp2
  go_loopw [13] (fun i wr => ∃ k n : Nat, k ≤ l.length ∧ i = .int .i64 k ∧ wr = w.drewN n) (fun i _ => l.length - (intOf i).toNat)
  case atStart => exact ⟨0, 0, Nat.zero_le _, rfl, rfl⟩
  case round =>
    obtain ⟨k, n, hk, rfl, rfl⟩ := hrel
    by_cases hlt : k < l.length
    · obtain ⟨x, hx⟩ := some_at hlt
      obtain ⟨b1, o1, rfl, hs1, hc1⟩ := HA.out.at encEv_len hx
      obtain ⟨b2, o2, rfl, hs2, hc2⟩ := HB.out.at encEv_len hx
      have x0 := hc1 0 _ rfl
      have x1 := hc1 1 _ rfl
      have x2 := hc1 2 _ rfl
      have x3 := hc1 3 _ rfl
      have y0 := hc2 0 _ rfl
      have y1 := hc2 1 _ rfl
      have y2 := hc2 2 _ rfl
      have y3 := hc2 3 _ rfl
      simp only [Nat.add_zero] at x0 y0
      clear hc1 hc2 hx hs1 hs2
      go_wp2_with fail
      go_quiet (fail)
      go_wp2
      exact ⟨⟨k + 1, _, by omega, by go_num, rfl⟩, by simp [intOf]; omega⟩
    · obtain rfl : k = l.length := by omega
      go_wp2
      go_ret
      exact ⟨rfl, below_drewN (Below.refl _ _) n⟩

theorem sameEvents_eq {w : World} {ao bo : Option Addr} {n m ca cb : Nat} {l : List Ev} (ha : Rd w 4 (.slice ao n ca) n (l.flatMap encEv)) (hb : Rd w 4 (.slice bo m cb) m (l.flatMap encEv)) (hn : n = l.length) (hm : m = l.length) (hl : l.length ≤ 9223372036854775807) :
    Calls Try.prog 17 #[.slice ao n ca, .slice bo m cb] w fun e w' => e = .returned (.bool true) ∧ Below w.heap.size w w' := by
  subst hn; subst hm
  exact sameEvents_true ha hb hl

theorem lit_events {w : World} {b : Nat} {t : TypeId} (l : List Ev) (h : w.heap[b]? = some (.cells (l.flatMap encEv).toArray t (0, 0))) (n : Nat) (hn : n = l.length) : RdT encEv w 4 (.slice (some ⟨b, 0, none⟩) n n) l := by
  subst hn
  refine ⟨flat_len encEv_len l, _, _, rfl, Nat.le_refl _, fun _ => ⟨b, 0, rfl, lt_of_block h, fun j u hj => ?_⟩⟩
  rw [Nat.zero_add]
  exact cell_of_block h (by simpa using hj)

theorem alive_run : ∃ o e, runH [⟨0, 1, 3, 0⟩, ⟨0, 3, 1, 5⟩, ⟨0, 7, 4, 1⟩] 0 HS.init = .inl ⟨[⟨0, 1, 0, 2, 3, 4, true, [⟨0, 3, 1, 5⟩]⟩], o, e⟩ := ⟨_, _, rfl⟩
theorem bel2 {a b : World} {o : Obj} (h : Below (a.alloc o).heap.size (a.alloc o) b) : Below a.heap.size a b := bnextA (Below.refl _ _) h

end Go.Proofs.Ytlphjkgjcfhihaa

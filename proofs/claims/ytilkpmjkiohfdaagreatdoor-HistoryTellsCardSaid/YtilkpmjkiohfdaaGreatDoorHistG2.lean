/- turnstilelaw01 over events and attempts: SameEvents, SameAttempt; turnstilelaw28.alive. -/
import Derived.Test.YtilkpmjkiohfdaaGreatDoorHistOf2
import Derived.ProofKit
namespace Go.Proofs.YtilkpmjkiohfdaaGreatDoor
set_option linter.unusedVariables false
set_option linter.unusedSimpArgs false
open Go.RowKit

set_option maxRecDepth 100000 in
set_option maxHeartbeats 1000000 in
theorem sameEvents_true {w : World} {ao bo : Option Addr} {ca cb : Nat} {l : List Ev} (ha : RdT encEv w 4 (.slice ao l.length ca) l) (hb : RdT encEv w 4 (.slice bo l.length cb) l) (hm : l.length ≤ 9223372036854775807) :
    Calls Tryz.prog 44 #[.slice ao l.length ca, .slice bo l.length cb] w fun e w' => e = .returned (.bool true) ∧ Below w.heap.size w w' := by
  have HA := hidI ha
  have HB := hidI hb
  clear ha hb
  go_enter Tryz.func44, Tryz.ntmps44
  go_wp2
  go_loopw [13] (fun i wr => ∃ k n : Nat, k ≤ l.length ∧ i = .int .i64 k ∧ wr = w.drewN n) (fun i _ => l.length - (intOf i).toNat)
  case atStart => exact ⟨0, 0, Nat.zero_le _, rfl, rfl⟩
  case round =>
    obtain ⟨k, n, hk, rfl, rfl⟩ := hrel
    by_cases hlt : k < l.length
    · obtain ⟨x, hx⟩ := some_at hlt
      obtain ⟨b1, o1, rfl, hs1, hc1⟩ := HA.out.at encEv_len hx
      obtain ⟨b2, o2, rfl, hs2, hc2⟩ := HB.out.at encEv_len hx
      have x0 := hc1 0 _ rfl
      have x1 := hc1 1 _ rfl
      have x2 := hc1 2 _ rfl
      have x3 := hc1 3 _ rfl
      have y0 := hc2 0 _ rfl
      have y1 := hc2 1 _ rfl
      have y2 := hc2 2 _ rfl
      have y3 := hc2 3 _ rfl
      simp only [Nat.add_zero] at x0 y0
      clear hc1 hc2 hx hs1 hs2
      go_wp2_with fail
      go_quiet (fail)
      go_wp2
      exact ⟨⟨k + 1, _, by omega, by go_num, rfl⟩, by simp [intOf]; omega⟩
    · obtain rfl : k = l.length := by omega
      go_wp2
      go_ret
      exact ⟨rfl, below_drewN (Below.refl _ _) n⟩

theorem sameEvents_eq {w : World} {ao bo : Option Addr} {n m ca cb : Nat} {l : List Ev} (ha : Rd w 4 (.slice ao n ca) n (l.flatMap encEv)) (hb : Rd w 4 (.slice bo m cb) m (l.flatMap encEv)) (hn : n = l.length) (hm : m = l.length) (hl : l.length ≤ 9223372036854775807) :
    Calls Tryz.prog 44 #[.slice ao n ca, .slice bo m cb] w fun e w' => e = .returned (.bool true) ∧ Below w.heap.size w w' := by
  subst hn; subst hm
  exact sameEvents_true ha hb hl

set_option maxRecDepth 100000 in
set_option maxHeartbeats 2000000 in
theorem sameAttempt_true {w : World} (a : Att) {v u : Value} (ha : RdT encEv w 4 v a.done) (hb : RdT encEv w 4 u a.done) (hl : a.done.length ≤ 2 ^ 20) :
    Calls Tryz.prog 142 #[.agg (encAtt a v).toArray, .agg (encAtt a u).toArray] w fun e w' => e = .returned (.bool true) ∧ Below w.heap.size w w' := by
  obtain ⟨ao, ca, rfl⟩ := Rd.shape ha
  obtain ⟨bo, cb, rfl⟩ := Rd.shape hb
  have HA := hidI ha
  have HB := hidI hb
  have HL := hidI hl
  clear ha hb hl
  obtain ⟨th, kind, beg, fin, clock, place, writer, done⟩ := a
  unfold encAtt
  go_enter Tryz.func142, Tryz.ntmps142
  go_wp2_with fail
  refine (sameEvents_true (Rd.alloc (Rd.alloc HA.out _) _) (Rd.alloc (Rd.alloc HB.out _) _) (by have := HL.out; simp at this; omega)).mono ?_
  rintro e w1 ⟨rfl, hb⟩
  have HBB := hidI hb
  clear hb
  go_wp2_with fail
  go_ret
  exact ⟨rfl, ((Below.refl _ _).alloc (Nat.le_refl _) _ |>.alloc (by simp) _).trans (HBB.out.mono (by simp; omega))⟩

theorem lit_events {w : World} {b : Nat} {t : TypeId} (l : List Ev) (h : w.heap[b]? = some (.cells (l.flatMap encEv).toArray t (0, 0))) (n : Nat) (hn : n = l.length) : RdT encEv w 4 (.slice (some ⟨b, 0, none⟩) n n) l := by
  subst hn
  refine ⟨flat_len encEv_len l, _, _, rfl, Nat.le_refl _, fun _ => ⟨b, 0, rfl, lt_of_block h, fun j u hj => ?_⟩⟩
  rw [Nat.zero_add]
  exact cell_of_block h (by simpa using hj)

theorem alive_run : ∃ o e, runH [⟨0, 1, 3, 0⟩, ⟨0, 3, 1, 5⟩, ⟨0, 7, 4, 1⟩] 0 HS.init = .inl ⟨[⟨0, 1, 0, 2, 3, 4, true, [⟨0, 3, 1, 5⟩]⟩], o, e⟩ := ⟨_, _, rfl⟩
theorem bel2 {a b : World} {o : Obj} (h : Below (a.alloc o).heap.size (a.alloc o) b) : Below a.heap.size a b := bnextA (Below.refl _ _) h

set_option maxRecDepth 100000 in
set_option maxHeartbeats 2000000 in
theorem alive_any (w : World) : Calls Tryz.prog 40 #[] w fun e w' => e = .returned (.bool true) ∧ Below w.heap.size w w' := by
  go_enter Tryz.func40, Tryz.ntmps40
  go_wp2_with fail
  refine (of_any (lit_events [⟨0, 1, 3, 0⟩, ⟨0, 3, 1, 5⟩, ⟨0, 7, 4, 1⟩] (block_new w _) 3 rfl) (by decide)).mono ?_
  intro e w1 hp
  obtain ⟨o1, o2, hr1⟩ := alive_run
  unfold OfPost at hp
  rw [hr1] at hp
  obtain ⟨ao, cp, ps, hps, rfl, hrow, hev, -, -, hb1⟩ := hp
  obtain ⟨⟨a, dv⟩, l, rfl, hp1, hp2⟩ := List.map_eq_cons_iff.1 hps
  obtain rfl := List.map_eq_nil_iff.1 hp2
  simp only at hp1
  subst hp1
  have hev' : w1.ownsRow _ 126 4 dv 1 _ := hev _ (List.mem_singleton.2 rfl)
  obtain ⟨ad, cd, rfl⟩ := ownsRow_shape hev'
  clear hev' hps hp2
  obtain ⟨b, off, rfl, hbl, hc⟩ := RdT.at (enc := enc2) enc2_len (l := [_]) (Rd.of_own hrow) (k := 0) rfl
  have x1 := hc 1 _ rfl
  have x4 := hc 4 _ rfl
  have x5 := hc 5 _ rfl
  have x6 := hc 6 _ rfl
  have x7 := hc 7 _ rfl
  simp only [Nat.zero_mul, Nat.add_zero] at x1 x4 x5 x6 x7
  have HB1 := hidI hb1
  clear hc hev hrow hb1 hr1
  go_wp2_with fail
  refine (of_any (lit_events [⟨0, 1, 0, 0⟩, ⟨0, 9, 0, 0⟩] (block_new w1 _) 2 rfl) (by decide)).mono ?_
  intro e w2 hp
  unfold OfPost at hp
  rw [show runH [⟨0, 1, 0, 0⟩, ⟨0, 9, 0, 0⟩] 0 HS.init = .inr 1 from rfl] at hp
  obtain ⟨rfl, hb2⟩ := hp
  have hb3 := bnextA HB1.out hb2
  have y1 := cell_later (bel2 hb2) x1
  have y4 := cell_later (bel2 hb2) x4
  have y5 := cell_later (bel2 hb2) x5
  have y6 := cell_later (bel2 hb2) x6
  have y7 := cell_later (bel2 hb2) x7
  clear x1 x4 x5 x6 x7 hb2 
  have HB3 := hidI hb3
  clear hb3
  go_wp2_with fail
  go_ret
  exact ⟨rfl, bel2 HB3.out⟩

end Go.Proofs.YtilkpmjkiohfdaaGreatDoor

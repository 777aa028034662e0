/- turnstileref29: May, Sorted. (Written by mkserg.py.) -/
import Derived.Test.YtlphjkgjcfhihaaSerF
namespace Go.Proofs.Ytlphjkgjcfhihaa
open Go.RowKit
set_option linter.unusedVariables false
set_option linter.unusedSimpArgs false

variable {w w' : World}

def dsum (ps : List (Att × Value)) : Nat := (ps.map (fun p => p.1.done.length)).sum
theorem dsum_snoc (l : List (Att × Value)) (p : Att × Value) : dsum (l ++ [p]) = dsum l + p.1.done.length := by simp [dsum]
theorem dsum_le (l : List (Att × Value)) (k : Nat) : dsum (l.take k) ≤ dsum l := by
  conv => rhs; rw [← List.take_append_drop k l]
  unfold dsum
  rw [List.map_append, List.sum_append]
  omega
theorem dsum_next {l : List (Att × Value)} {k : Nat} {p : Att × Value} (h : l[k]? = some p) : dsum (l.take (k + 1)) = dsum (l.take k) + p.1.done.length := by
  rw [List.take_add_one, h, Option.toList_some, dsum_snoc]

set_option maxRecDepth 100000 in
set_option maxHeartbeats 4000000 in
theorem may_any {ao : Option Addr} {cap : Nat} {ps : List (Att × Value)} (h : AttsR w (.slice ao ps.length cap) ps) (hf : ∀ p ∈ ps, AttFine p.1) (hinc : ∀ (j : Nat) a b, ps[j]? = some a → ps[j + 1]? = some b → a.1.beg < b.1.beg) (hlen : ps.length ≤ 262144) (htot : dsum ps ≤ 262144) :
    Calls Try.prog 20 #[.slice ao ps.length cap] w fun e w' => e = .returned (.int .i64 0) ∧ Below w.heap.size w w' := by
  have H := hidI h
  have HF := hidI hf
  have HI := hidI hinc
  have HT := hidI htot
  clear h hf hinc htot
  go_enter Try.func20, Try.ntmps20
  go_wp2_with fail
  go_loopw [3, 4] (fun l i wr => ∃ (k d : Nat) (z : Int), k ≤ ps.length ∧ l = .int .i64 z ∧ z = 1048576 - (k : Int) - (d : Int) ∧ i = .int .i64 (k : Int) ∧ Hid (d = dsum (ps.take k)) ∧ wr = w) (fun _ i _ => ((ps.length : Int) - intOf i).toNat)
  case atStart => exact ⟨0, 0, 1048576, by omega, rfl, by simp, rfl, hidI rfl, rfl⟩
  case round =>
    obtain ⟨k, d, z, hk, rfl, hz, rfl, HD, rfl⟩ := hrel
    by_cases hlt : k < ps.length
    · obtain ⟨p, hp⟩ := some_at hlt
      obtain ⟨b, off, rfl, hs1, hc⟩ := RdT.at (enc := enc2) enc2_len H.out.row hp
      obtain ⟨do_, dc, hdv⟩ := Rd.shape (H.out.evs p (List.mem_of_getElem? hp))
      have x7 := hc 7 _ rfl
      rw [hdv] at x7
      have hds : d + p.1.done.length ≤ 262144 := by
        rw [HD.out, ← dsum_next hp]
        exact Nat.le_trans (dsum_le _ _) HT.out
      have hn : ¬ (z - 1 - (p.1.done.length : Int) < 0) := by omega
      have HN := hidI (show d + p.1.done.length = dsum (ps.take (k + 1)) from by rw [dsum_next hp, HD.out])
      clear hc hs1 hp hdv
      go_wp2_with fail
      exact ⟨⟨k + 1, d + p.1.done.length, z - 1 - p.1.done.length, by omega, by go_num, by omega, by go_num, HN, trivial⟩, by simp [intOf]; omega⟩
    · obtain rfl : k = ps.length := by omega
      clear HD hz
      go_wp2_with fail
      obtain ⟨w0, hw0⟩ : ∃ w0, w0 = wr := ⟨_, rfl⟩
      subst hw0
      go_loopw [5] (fun i wr => ∃ k : Nat, k ≤ ps.length ∧ i = .int .i64 (k : Int) ∧ Hid (Below w0.heap.size w0 wr)) (fun i _ => ((ps.length : Int) - intOf i).toNat)
      case atStart => exact ⟨0, by omega, rfl, hidI (Below.refl _ _)⟩
      case round =>
        obtain ⟨k, hk, rfl, HW⟩ := hrel
        by_cases hlt : k < ps.length
        · obtain ⟨⟨p, dv⟩, hp⟩ := some_at hlt
          have hfine := HF.out _ (List.mem_of_getElem? hp)
          have HFI := hidI hfine
          have hev := H.out.evs _ (List.mem_of_getElem? hp)
          have HEV := hidI (fun t => Rd.below (Rd.below hev HW.out) (ext_below wr t))
          have hrow := Rd.below H.out.row HW.out
          obtain ⟨b, off, rfl, hs1, hc⟩ := RdT.at (enc := enc2) enc2_len hrow hp
          have x0 := fun t => ext_cell (hc 0 _ rfl) t
          have x1 := fun t => ext_cell (hc 1 _ rfl) t
          have x2 := fun t => ext_cell (hc 2 _ rfl) t
          have x3 := fun t => ext_cell (hc 3 _ rfl) t
          have x4 := fun t => ext_cell (hc 4 _ rfl) t
          have x5 := fun t => ext_cell (hc 5 _ rfl) t
          have x6 := fun t => ext_cell (hc 6 _ rfl) t
          have x7 := fun t => ext_cell (hc 7 _ rfl) t
          simp only [Nat.add_zero] at x0
          clear hfine hev
          by_cases hk0 : k = 0
          · subst hk0
            simp only [Nat.zero_mul, Nat.add_zero] at x0 x1 x2 x3 x4 x5 x6 x7
            clear hc hs1 hp hrow
            go_wp2_with fail
            refine wp_region_grow (by kernel_rfl) (by kernel_rfl) ?_
            repeat (go_big_quiet_step ((first | (go_at_call 34; exact grow_of (attempt_any HFI.out (HEV.out _))))))
            refine wpQuiet_nil ?_
            intro wU hb
            have HU := hidI (HW.out.trans (hb.mono HW.out.size))
            clear hb x0 x1 x2 x3 x4 x5 x6 x7
            go_wp2_with fail
            exact ⟨⟨1, by omega, by go_num, HU⟩, by simp [intOf]; omega⟩
          · obtain ⟨j, rfl⟩ : ∃ j, k = j + 1 := ⟨k - 1, by omega⟩
            obtain ⟨⟨q, du⟩, hq⟩ := some_at (l := ps) (k := j) (by omega)
            have hle := HI.out j _ _ hq hp
            simp only at hle
            obtain ⟨b2, off2, e2, hs2, hc2⟩ := RdT.at (enc := enc2) enc2_len hrow hq
            simp only [Option.some.injEq, Addr.mk.injEq, and_true] at e2
            obtain ⟨rfl, rfl⟩ := e2
            have y2 := fun t => ext_cell (hc2 2 _ rfl) t
            have hj1 : ((j : Int) + 1) - 1 = (j : Int) := by omega
            have hjw : IntKind.i64.wrap (j : Int) = (j : Int) := IntWalk.i64_in _ (by omega)
            have hj0 : (0 : Int) < (j : Int) + 1 := by omega
            have hng : ¬ p.beg ≤ q.beg := by omega
            clear hc hs1 hp hrow hc2 hs2 hq hle
            go_wp2_with fail
            refine wp_region_grow (by kernel_rfl) (by kernel_rfl) ?_
            repeat (go_big_quiet_step ((first | (go_at_call 34; exact grow_of (attempt_any HFI.out (HEV.out _))))))
            refine wpQuiet_nil ?_
            intro wU hb
            have HU := hidI (HW.out.trans (hb.mono HW.out.size))
            clear hb x0 x1 x2 x3 x4 x5 x6 x7 y2
            go_wp2_with fail
            exact ⟨⟨j + 2, by omega, by go_num, HU⟩, by simp [intOf]; omega⟩
        · obtain rfl : k = ps.length := by omega
          go_wp2_with fail
          go_ret
          exact ⟨rfl, HW.out⟩
end Go.Proofs.Ytlphjkgjcfhihaa

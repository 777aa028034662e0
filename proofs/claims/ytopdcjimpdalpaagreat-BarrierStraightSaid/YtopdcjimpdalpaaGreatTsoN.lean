/- Package tso: may code be? -/
import Derived.Test.YtopdcjimpdalpaaGreatTsoSpec
import Derived.Test.YtopdcjimpdalpaaGreatBookR
import Derived.Test.YtopdcjimpdalpaaGreatStep
namespace Go.Proofs.YtopdcjimpdalpaaGreat
open Go.RowKit
set_option linter.unusedVariables false
set_option linter.unusedSimpArgs false

variable {w w' : World}

theorem codeV_ne (w : World) (b : Bool) : Sem.run Tryz.prog (binOp .neq 31 (codeV b) (.int .i64 0)) w = .ok (.bool (!b)) w := by
  cases b <;> kernel_rfl

set_option maxHeartbeats 1000000 in
theorem bad_any (w : World) (o : OpD) (hw : wfOp o) : Calls Tryz.prog 139 #[.agg (encOp o).toArray] w fun e w' => e = .returned (.bool (!checkS o)) ∧ Below w.heap.size w w' := by
  obtain ⟨kind, cal, a, b, c, n⟩ := o
  have HW := hidI hw
  clear hw
  unfold encOp
  have hq := codeV_ne
  have HBOX := hidI ((Below.refl w.heap.size w).alloc (Nat.le_refl _) (.cells #[.int .u8 kind, .int .u8 cal, .int .u8 a, .int .u8 b, .int .u8 c, .int .i64 n] 107))
  go_enter Tryz.func139, Tryz.ntmps139
  go_wp2_with fail
  refine (check_any _ _ HW.out).mono ?_
  rintro e w1 ⟨rfl, hb⟩
  have HB := hidI hb
  clear hb hq
  cases hc : checkS ⟨kind, cal, a, b, c, n⟩ with
  | true =>
    rw [show codeV true = .int .i64 0 from rfl]
    have HC := hidI hc
    clear hc
    go_wp2_with fail
    go_ret
    exact ⟨by rw [HC.out]; rfl, HBOX.out.trans (HB.out.mono HBOX.out.size)⟩
  | false =>
    rw [show codeV false = .int .i64 1 from rfl]
    have HC := hidI hc
    clear hc
    go_wp2_with fail
    go_ret
    exact ⟨by rw [HC.out]; rfl, HBOX.out.trans (HB.out.mono HBOX.out.size)⟩

set_option maxHeartbeats 2000000 in
theorem index_any {ao : Option Addr} {cap : Nat} {l : List OpD} (h : RdT encOp w 6 (.slice ao l.length cap) l) (hl : l.length ≤ 262144) (hw : ∀ o ∈ l, wfOp o) :
    Calls Tryz.prog 166 #[.slice ao l.length cap, .func (.func 139) #[] #[]] w fun e w' => (∃ z : Int, e = .returned (.int .i64 z) ∧ (0 ≤ z ↔ ∃ o ∈ l, checkS o = false)) ∧ Below w.heap.size w w' := by
  have H := hidI h
  have HL := hidI hl
  have HWF := hidI hw
  clear h hl hw
  go_enter Tryz.func166, Tryz.ntmps166
  go_wp2_with fail
  go_loopw [8] (fun i w' => ∃ k : Nat, k ≤ l.length ∧ i = .int .i64 (k : Int) ∧ Hid (Below w.heap.size w w' ∧ ∀ j (o : OpD), j < k → l[j]? = some o → checkS o = true)) (fun i _ => ((l.length : Int) - intOf i).toNat)
  case atStart => exact ⟨0, by omega, rfl, ⟨Below.refl _ _, fun j o hj => absurd hj (by omega)⟩⟩
  case round =>
    obtain ⟨k, hk, rfl, HR⟩ := hrel
    by_cases hlt : k < l.length
    · have ho := List.getElem?_eq_getElem hlt
      obtain ⟨cb, co, rfl, hcb, hcc⟩ := RdT.at encOp_len (H.out.below HR.out.1) ho
      generalize ho' : l[k] = o at ho hcc
      have hwo := HWF.out o (List.mem_of_getElem? ho)
      obtain ⟨ki, cal, ra, rb, rc, num⟩ := o
      have i0 := hcc 0 _ rfl
      have i1 := hcc 1 _ rfl
      have i2 := hcc 2 _ rfl
      have i3 := hcc 3 _ rfl
      have i4 := hcc 4 _ rfl
      have i5 := hcc 5 _ rfl
      rw [Nat.add_zero] at i0
      have HO := hidI ho
      have HWO := hidI hwo
      clear ho ho' hwo hcc hcb
      go_wp2_with fail
      refine (bad_any wr ⟨ki, cal, ra, rb, rc, num⟩ HWO.out).mono ?_
      rintro e w2 ⟨rfl, hb2⟩
      have HB2 := hidI (HR.out.1.trans (hb2.mono HR.out.1.size))
      clear hb2 i0 i1 i2 i3 i4 i5
      cases hc : checkS ⟨ki, cal, ra, rb, rc, num⟩ with
      | false =>
        have HC := hidI hc
        clear hc
        go_wp2_with fail
        go_ret
        exact ⟨⟨_, rfl, ⟨fun _ => ⟨_, List.mem_of_getElem? HO.out, HC.out⟩, fun _ => by omega⟩⟩, HB2.out⟩
      | true =>
        have HC := hidI hc
        have hkl : k < 262144 := Nat.lt_of_lt_of_le hlt HL.out
        clear hc
        go_wp2_with fail
        refine ⟨⟨k + 1, by omega, by go_num, ⟨HB2.out, fun j o hj ho => ?_⟩⟩, by simp [intOf]; omega⟩
        by_cases e : j = k
        · subst e
          rw [HO.out] at ho
          cases ho
          exact HC.out
        · exact HR.out.2 j o (by omega) ho
    · obtain rfl : k = l.length := by omega
      go_wp2_with fail
      go_ret
      refine ⟨⟨-1, rfl, ⟨fun h => absurd h (by decide), fun ⟨o, ho, hc⟩ => ?_⟩⟩, HR.out.1⟩
      obtain ⟨j, hj⟩ := List.getElem?_of_mem ho
      rw [HR.out.2 j o (List.getElem?_eq_some_iff.1 hj).1 hj] at hc
      cases hc

set_option maxHeartbeats 1000000 in
theorem contains_any {ao : Option Addr} {cap : Nat} {l : List OpD} (h : RdT encOp w 6 (.slice ao l.length cap) l) (hl : l.length ≤ 262144) (hw : ∀ o ∈ l, wfOp o) :
    Calls Tryz.prog 138 #[.slice ao l.length cap, .func (.func 139) #[] #[]] w fun e w' => e = .returned (.bool (!(l.all checkS))) ∧ Below w.heap.size w w' := by
  have H := hidI h
  have HL := hidI hl
  have HWF := hidI hw
  clear h hl hw
  go_enter Tryz.func138, Tryz.ntmps138
  go_wp2_with fail
  refine (index_any H.out HL.out HWF.out).mono ?_
  rintro e w1 ⟨⟨z, rfl, hz⟩, hb⟩
  have HZ := hidI hz
  have HB := hidI hb
  clear hz hb
  by_cases h0 : 0 ≤ z
  · have hd : decide (0 ≤ z) = true := decide_eq_true h0
    go_wp2_with fail
    go_ret
    refine ⟨?_, HB.out⟩
    obtain ⟨o, ho, hc⟩ := HZ.out.1 h0
    rw [show l.all checkS = false from by rw [List.all_eq_false]; exact ⟨o, ho, by simp [hc]⟩]
    rfl
  · have hd : decide (0 ≤ z) = false := decide_eq_false h0
    go_wp2_with fail
    go_ret
    refine ⟨?_, HB.out⟩
    rw [show l.all checkS = true from by
      rw [List.all_eq_true]
      intro o ho
      cases hc : checkS o with
      | true => rfl
      | false => exact absurd (HZ.out.2 ⟨o, ho, hc⟩) (by omega)]
    rfl
end Go.Proofs.YtopdcjimpdalpaaGreat

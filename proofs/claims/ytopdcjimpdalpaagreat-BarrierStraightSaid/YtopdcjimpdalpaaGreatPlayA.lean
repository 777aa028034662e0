/- Package play: how long a script is. -/
import Derived.Test.YtopdcjimpdalpaaGreatFlat
import Derived.BigQuiet
namespace Go.Proofs.YtopdcjimpdalpaaGreat
open Go.RowKit
set_option linter.unusedVariables false
set_option linter.unusedSimpArgs false

/-- api.Pick: Kind, Thread, N -/
structure PickD where
  kind : Int
  th : Int
  n : Int
deriving DecidableEq
def encPk (p : PickD) : List Value := [.int .u8 p.kind, .int .i64 p.th, .int .i64 p.n]
theorem encPk_len : ∀ p, (encPk p).length = 3 := fun _ => rfl
/-- a pick's length -/
def plen (p : PickD) : Int := if p.kind = 2 then min p.n 1048577 * 2 else min p.n 1048577
def pbad (p : PickD) : Bool := decide (2 < p.kind) || decide (p.n < 0)
def total (l : List PickD) : Int := (l.map plen).sum
/-- Length: how long, and whether it may be -/
def lengthS (l : List PickD) : Int × Int :=
  if 65536 < l.length then (0, 3) else if l.any pbad = true then (0, 1) else if 1048576 < total l then (0, 3) else (total l, 0)

theorem plen_le (p : PickD) : plen p ≤ 2097154 := by unfold plen; split <;> omega
theorem plen_ge {p : PickD} (h : pbad p = false) : 0 ≤ plen p := by unfold pbad at h; simp at h; unfold plen; split <;> omega
theorem total_snoc (l : List PickD) (p : PickD) : total (l ++ [p]) = total l + plen p := by simp [total]
theorem total_app (l r : List PickD) : total (l ++ r) = total l + total r := by simp [total]
theorem total_ge {l : List PickD} (h : l.any pbad = false) : 0 ≤ total l := by
  induction l with
  | nil => simp [total]
  | cons p r ih =>
    simp only [List.any_cons, Bool.or_eq_false_iff] at h
    have := plen_ge h.1
    have := ih h.2
    simp only [total, List.map_cons, List.sum_cons] at *
    omega

variable {w w' : World}

set_option maxHeartbeats 1000000 in
theorem plen_any (w : World) (p : PickD) (hn : 0 ≤ p.n) :
    Calls Tryz.prog 99 #[.agg #[.int .u8 p.kind, .int .i64 p.th, .int .i64 p.n]] w fun e w' => e = .returned (.int .i64 (plen p)) ∧ Below w.heap.size w w' := by
  go_enter Tryz.func99, Tryz.ntmps99
  by_cases hk : p.kind = 2
  · go_wp2_with fail
    all_goals
      go_ret
      refine ⟨?_, (Below.refl _ _).alloc (Nat.le_refl _) _⟩
      simp [plen, wrap64, hk]
      omega
  · go_wp2_with fail
    all_goals
      go_ret
      refine ⟨?_, (Below.refl _ _).alloc (Nat.le_refl _) _⟩
      simp [plen, hk]
      omega

set_option maxHeartbeats 1000000 in
theorem length_any {ao : Option Addr} {cap : Nat} {l : List PickD} (h : RdT encPk w 3 (.slice ao l.length cap) l) (hm : l.length ≤ 9000000000000) (hn : ∀ p ∈ l, -9223372036854775808 ≤ p.n ∧ 0 ≤ p.kind) :
    Calls Tryz.prog 61 #[.slice ao l.length cap] w fun e w' => e = .returned (.tuple #[.int .i64 (lengthS l).1, .int .i64 (lengthS l).2]) ∧ Below w.heap.size w w' := by
  have H := hidI h
  have HN := hidI hn
  clear h hn
  go_enter Tryz.func61, Tryz.ntmps61
  by_cases hb : 65536 < l.length
  · go_wp2_with fail
    go_ret2
    unfold lengthS
    rw [if_pos hb]
    exact ⟨rfl, Below.refl _ _⟩
  · have h1 : ¬ ((l.length : Int) > 65536) := by omega
    go_wp2_with fail
    go_loopw [14] (fun i w' => ∃ k : Nat, k ≤ l.length ∧ i = .int .i64 (k : Int) ∧ Hid (Below w.heap.size w w') ∧ Hid ((l.take k).any pbad = false)) (fun i _ => ((l.length : Int) - intOf i).toNat)
    case atStart => exact ⟨0, by omega, rfl, hidI (Below.refl _ _), hidI rfl⟩
    case round =>
      obtain ⟨k, hk, rfl, HB, hall⟩ := hrel
      by_cases hlt : k < l.length
      · obtain ⟨x, hx⟩ := some_at hlt
        obtain ⟨b1, o1, rfl, hs1, hc1⟩ := RdT.at encPk_len (Rd.below H.out HB.out) hx
        have x0 := hc1 0 _ rfl
        have x1 := hc1 1 _ rfl
        have x2 := hc1 2 _ rfl
        simp only [Nat.add_zero] at x0
        clear hc1 hs1
        by_cases hbad : pbad x = true
        · have hv : lengthS l = (0, 1) := by unfold lengthS; rw [if_neg hb, if_pos (List.any_eq_true.2 ⟨x, List.mem_of_getElem? hx, hbad⟩)]
          unfold pbad at hbad
          simp only [Bool.or_eq_true, decide_eq_true_eq] at hbad
          have HV := hidI hv
          clear hv hall
          by_cases h2 : x.kind > 2
          · clear hbad
            go_wp2_with fail
            go_ret2
            rw [HV.out]
            exact ⟨rfl, HB.out.alloc HB.out.size _⟩
          · have h3 : x.n < 0 := by omega
            clear hbad
            go_wp2_with fail
            go_ret2
            rw [HV.out]
            exact ⟨rfl, HB.out.alloc HB.out.size _⟩
        · have hk2 : ¬ (x.kind > 2) := by unfold pbad at hbad; simp at hbad; omega
          have hn2 : ¬ (x.n < 0) := by unfold pbad at hbad; simp at hbad; omega
          have HX := hidI hx
          have HBAD := hidI hbad
          clear hbad hx
          go_wp2_with fail
          refine ⟨⟨k + 1, by omega, by go_num, hidI (HB.out.alloc HB.out.size _), hidI ?_⟩, by simp [intOf]; omega⟩
          rw [take_snoc HX.out, List.any_append, hall.out]
          simpa using HBAD.out
      · obtain rfl : k = l.length := by omega
        have hall' := hall.out
        rw [List.take_length] at hall'
        have HA := hidI hall'
        clear hall hall'
        obtain ⟨w1, rfl⟩ : ∃ w1, w1 = wr := ⟨_, rfl⟩
        go_wp2_with fail
        go_loopw [4, 29] (fun nv i w' => ∃ k : Nat, k ≤ l.length ∧ i = .int .i64 (k : Int) ∧ nv = .int .i64 (total (l.take k)) ∧ total (l.take k) ≤ 1048576 ∧ Hid (Below w.heap.size w w')) (fun nv i _ => ((l.length : Int) - intOf i).toNat)
        case atStart => exact ⟨0, by omega, rfl, rfl, by simp [total], HB⟩
        case round =>
          obtain ⟨k, hk, rfl, rfl, htot, HB⟩ := hrel
          by_cases hlt : k < l.length
          · obtain ⟨x, hx⟩ := some_at hlt
            obtain ⟨b1, o1, rfl, hs1, hc1⟩ := RdT.at encPk_len (Rd.below H.out HB.out) hx
            have x0 := hc1 0 _ rfl
            have x1 := hc1 1 _ rfl
            have x2 := hc1 2 _ rfl
            simp only [Nat.add_zero] at x0
            have hbx : pbad x = false := by
              have := List.any_eq_false.1 HA.out x (List.mem_of_getElem? hx)
              simpa using this
            have hng : 0 ≤ x.n := by unfold pbad at hbx; simp at hbx; omega
            have hp0 := plen_ge hbx
            have hp1 := plen_le x
            have ht0 : 0 ≤ total (l.take k) := total_ge (by
              refine List.any_eq_false.2 fun y hy => ?_
              exact List.any_eq_false.1 HA.out y (List.mem_of_mem_take hy))
            have hsn : total (l.take (k + 1)) = total (l.take k) + plen x := by rw [take_snoc hx, total_snoc]
            have hle : total (l.take (k + 1)) ≤ total l := by
              have h1 := total_app (l.take (k + 1)) (l.drop (k + 1))
              rw [List.take_append_drop] at h1
              have : 0 ≤ total (l.drop (k + 1)) := total_ge (by
                refine List.any_eq_false.2 fun y hy => ?_
                exact List.any_eq_false.1 HA.out y (List.mem_of_mem_drop hy))
              omega
            have HLE := hidI hle
            have HX := hidI hx
            clear hc1 hs1 hx hbx hle
            go_wp2_with fail
            refine (plen_any _ x hng).mono ?_
            rintro e w2 ⟨rfl, hb2⟩
            have HB2 := hidI ((HB.out.alloc HB.out.size _).trans (hb2.mono (by have := HB.out.size; simp; omega)))
            clear hb2
            have hs9 := hidI hsn
            clear hsn
            generalize hT : total (l.take k) = T at *
            generalize hP : plen x = pl at *
            clear hT hP
            by_cases hgt : T + pl > 1048576
            · go_wp2_with fail
              go_ret2
              have hv : lengthS l = (0, 3) := by unfold lengthS; rw [if_neg hb, if_neg (by rw [HA.out]; decide), if_pos (by have := HLE.out; have := hs9.out; omega)]
              rw [hv]
              exact ⟨rfl, HB2.out⟩
            · go_wp2_with fail
              exact ⟨⟨k + 1, by omega, by go_num, by rw [hs9.out], by rw [hs9.out]; omega, HB2⟩, by simp [intOf]; omega⟩
          · obtain rfl : k = l.length := by omega
            go_wp2_with fail
            go_ret2
            rw [List.take_length] at htot ⊢
            refine ⟨?_, HB.out⟩
            have hv : lengthS l = (total l, 0) := by unfold lengthS; rw [if_neg hb, if_neg (by rw [HA.out]; decide), if_neg (by omega)]
            rw [hv]
            rfl
end Go.Proofs.YtopdcjimpdalpaaGreat

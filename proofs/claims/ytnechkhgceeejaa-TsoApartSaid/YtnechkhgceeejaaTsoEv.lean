/- Package tso: Events, At, Waiting of a machine that lives. -/
import Derived.Test.YtnechkhgceeejaaTsoY
namespace Go.Proofs.Ytnechkhgceeejaa
open Go.RowKit
set_option linter.unusedVariables false
set_option linter.unusedSimpArgs false

variable {w w' : World} {base b : Nat} {own own' : Nat → Nat} {mm : MM} {xs : List TX} {mv tv ev : Value}

set_option maxHeartbeats 1000000 in
theorem events_any (h : MAt w base b own mm xs mv tv ev) (hl : mm.evs.length ≤ 1000000000) :
    Calls Try.prog 21 #[.pointer (some ⟨b, 0, none⟩)] w (CloneRow 49 4 encEv mm.evs w) := by
  obtain ⟨ao, cp, rfl⟩ := ownsRow_shape h.evs
  have c3 := h.wcell 3 _ rfl
  have HR := hidI (Rd.of_own h.evs)
  have HL := hidI hl
  clear h hl
  go_enter Try.func21, Try.ntmps21
  go_wp2_with fail
  refine (cloneEvs_any HR.out HL.out).mono ?_
  rintro e w1 ⟨cv, rfl, ho, hb⟩
  have HO := hidI ho
  have HB := hidI hb
  clear ho hb
  go_wp2_with fail
  go_ret
  exact ⟨_, rfl, HO.out, HB.out⟩

set_option maxHeartbeats 1000000 in
theorem at_yes {tb cap n : Nat} {x : TX} (h : MAt w base b own mm xs mv (.slice (some ⟨tb, 0, none⟩) xs.length cap) ev) (hx : xs[n]? = some x) :
    Calls Try.prog 17 #[.pointer (some ⟨b, 0, none⟩), .int .i64 (n : Int)] w fun e w' => e = .returned (.tuple #[.int .i64 x.th.at_, .bool true]) ∧ w' = w := by
  have e9 := h.cell hx 9 _ rfl
  have H := hidI h
  have HX := hidI hx
  clear h hx
  go_enter Try.func17, Try.ntmps17
  go_wp2_with fail
  refine (of_yes H.out HX.out).mono ?_
  rintro e w1 ⟨rfl, rfl⟩
  go_wp2_with fail
  go_ret2
  exact ⟨rfl, rfl⟩

set_option maxHeartbeats 1000000 in
theorem at_no (h : MAt w base b own mm xs mv tv ev) {z : Int} (hz : z < 0 ∨ (xs.length : Int) ≤ z) :
    Calls Try.prog 17 #[.pointer (some ⟨b, 0, none⟩), .int .i64 z] w fun e w' => e = .returned (.tuple #[.int .i64 0, .bool false]) ∧ w' = w := by
  have H := hidI h
  clear h
  go_enter Try.func17, Try.ntmps17
  go_wp2_with fail
  refine (of_no H.out hz).mono ?_
  rintro e w1 ⟨rfl, rfl⟩
  go_wp2_with fail
  go_ret2
  exact ⟨rfl, rfl⟩

set_option maxHeartbeats 1000000 in
theorem waiting_yes {tb cap n : Nat} {x : TX} (h : MAt w base b own mm xs mv (.slice (some ⟨tb, 0, none⟩) xs.length cap) ev) (hx : xs[n]? = some x) :
    Calls Try.prog 25 #[.pointer (some ⟨b, 0, none⟩), .int .i64 (n : Int)] w (AllPost x.th.wait w) := by
  have e10 := h.cell hx 10 _ rfl
  obtain ⟨c, f, hr⟩ := (h.th n x hx).ring
  have HR := hidI hr
  have H := hidI h
  have HX := hidI hx
  clear h hx hr
  go_enter Try.func25, Try.ntmps25
  go_wp2_with fail
  refine (of_yes H.out HX.out).mono ?_
  rintro e w1 ⟨rfl, rfl⟩
  go_wp2_with fail
  refine (all_yes HR.out).mono ?_
  rintro e w1 ⟨g, rfl, ho, hb⟩
  have HO := hidI ho
  have HB := hidI hb
  clear ho hb HR
  go_wp2_with fail
  go_ret
  exact ⟨_, rfl, HO.out, HB.out⟩

set_option maxHeartbeats 1000000 in
theorem waiting_no (h : MAt w base b own mm xs mv tv ev) {z : Int} (hz : z < 0 ∨ (xs.length : Int) ≤ z) :
    Calls Try.prog 25 #[.pointer (some ⟨b, 0, none⟩), .int .i64 z] w fun e w' => e = .returned (.slice none 0 0) ∧ w' = w := by
  have H := hidI h
  clear h
  go_enter Try.func25, Try.ntmps25
  go_wp2_with fail
  refine (of_no H.out hz).mono ?_
  rintro e w1 ⟨rfl, rfl⟩
  go_wp2_with fail
  go_ret
  exact ⟨rfl, rfl⟩

set_option maxHeartbeats 1000000 in
theorem register_no (h : MAt w base b own mm xs mv tv ev) {z : Int} (r : Int) (hz : z < 0 ∨ (xs.length : Int) ≤ z) :
    Calls Try.prog 15 #[.pointer (some ⟨b, 0, none⟩), .int .i64 z, .int .i64 r] w fun e w' => e = .returned (.tuple #[.int .i64 0, .bool false]) ∧ w' = w := by
  have H := hidI h
  clear h
  go_enter Try.func15, Try.ntmps15
  go_wp2_with fail
  refine (of_no H.out hz).mono ?_
  rintro e w1 ⟨rfl, rfl⟩
  go_wp2_with fail
  go_ret2
  exact ⟨rfl, rfl⟩
end Go.Proofs.Ytnechkhgceeejaa

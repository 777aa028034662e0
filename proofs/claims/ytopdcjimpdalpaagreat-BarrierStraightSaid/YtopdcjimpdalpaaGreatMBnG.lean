/- Put together by merge.py out of XBnG.lean.tpl, XBnH.lean.tpl, XBnI.lean.tpl, XBnO.lean.tpl. -/
import Derived.Test.YtopdcjimpdalpaaGreatMBnA
import Derived.Deep.CutRange
import Derived.Deep.RegionWith
import Derived.StillTailTactics
import Derived.Test.YtopdcjimpdalpaaGreatWrap
import Derived.Lib.SmallJoins
namespace Go.Proofs.YtopdcjimpdalpaaGreat
open Go.RowKit
set_option linter.unusedVariables false
set_option linter.unusedSimpArgs false

section
variable {w w' : World}
theorem counted_any (w : World) (z : Int) (h : -9223372036854775808 ≤ z ∧ z ≤ 262144) : Calls Tryz.prog 50 #[.int .i64 z] w fun e w' => e = .returned (.int .i64 (if z < 0 then 262145 else 262144 - z)) ∧ Below w.heap.size w w' := by
  obtain ⟨h1, h2⟩ := h
  by_cases hz : z < 0
  · rw [if_pos hz]
    go_enter Tryz.func50, Tryz.ntmps50
    go_wp2_with fail
    go_ret
    exact ⟨rfl, Below.refl _ _⟩
  · rw [if_neg hz]
    go_enter Tryz.func50, Tryz.ntmps50
    go_wp2_with fail
    go_ret
    exact ⟨rfl, Below.refl _ _⟩

theorem bn_total_take (rs : List (Value × List Tx)) (k : Nat) : txTotal (rs.take k) ≤ txTotal rs := by
  unfold txTotal
  have : rs = rs.take k ++ rs.drop k := (List.take_append_drop _ _).symm
  conv => rhs; rw [this, List.map_append, List.sum_append]
  omega
set_option maxHeartbeats 2000000 in
theorem txsize_any {ra : Option Addr} {rc : Nat} {rs : List (Value × List Tx)} (h : RowsAt w (.slice ra rs.length rc) rs) (hl : rs.length ≤ 9223372036854775807) (he : ∀ p ∈ rs, p.2.length ≤ 9223372036854775807) :
    Calls Tryz.prog 26 #[.slice ra rs.length rc] w fun e w' => ∃ z : Int, e = .returned (.int .i64 z) ∧ 0 ≤ z ∧ z ≤ 262145 ∧ (z ≤ 262144 → (txTotal rs : Int) = z) ∧ Below w.heap.size w w' := by
  have H := hidI h
  have HE := hidI he
  have HL := hidI hl
  clear h he
  go_enter Tryz.func26, Tryz.ntmps26
  go_wp2_with fail
  go_loopw [4, 3] (fun i z wr => ∃ (j : Nat) (y : Int), j ≤ rs.length ∧ i = .int .i64 (j : Int) ∧ z = .int .i64 y ∧ y = 262144 - (txTotal (rs.take j) : Int) ∧ -9223372036854775808 ≤ y ∧ wr = w) (fun i _ _ => rs.length - (intOf i).toNat)
  case atStart => exact ⟨0, 262144, Nat.zero_le _, rfl, rfl, by simp [txTotal], by decide, rfl⟩
  case round =>
    obtain ⟨j, y, hj, rfl, rfl, hy, hyl, rfl⟩ := hrel
    have hll := HL.out
    have HY := hidI hy
    have hyu : y ≤ 262144 := by omega
    clear hy
    by_cases hlt : j < rs.length
    · by_cases hy0 : y < 0
      · have q1 : ¬ (y ≥ 0) := by omega
        go_wp2_with fail
        refine (counted_any _ y ⟨hyl, hyu⟩).mono ?_
        rintro e w1 ⟨rfl, hb⟩
        rw [if_pos hy0]
        have HB := hidI hb
        clear hb
        go_wp2_with fail
        go_ret
        exact ⟨262145, rfl, by decide, by decide, fun h => absurd h (by decide), HB.out⟩
      · have q1 : y ≥ 0 := by omega
        obtain ⟨p, hx⟩ := some_at hlt
        obtain ⟨g, off, rfl, hg, hc⟩ := RdT.at (enc := encR) (fun _ => rfl) H.out.rows hx
        obtain ⟨pa, pc, hpv⟩ := rd_shape (H.out.each p (List.mem_of_getElem? hx))
        have d0 : wr.cell? ⟨g, off + j, none⟩ = some (.slice pa p.2.length pc) := by have := hc 0 _ rfl; rw [← hpv]; simpa [encR] using this
        have hpl := HE.out p (List.mem_of_getElem? hx)
        have HT := hidI (txTotal_step hx)
        clear hx hc hpv
        go_wp2_with fail
        exact ⟨⟨j + 1, y - 1 - (p.2.length : Int), by omega, by go_num, rfl, by rw [HT.out, HY.out]; omega, by omega, trivial⟩, by simp [intOf]; omega⟩
    · obtain rfl : j = rs.length := by omega
      rw [List.take_length] at HY
      go_wp2_with fail
      refine (counted_any _ y ⟨hyl, hyu⟩).mono ?_
      rintro e w1 ⟨rfl, hb⟩
      have HB := hidI hb
      clear hb
      obtain ⟨z, hz⟩ : ∃ z, z = (if y < 0 then 262145 else 262144 - y) := ⟨_, rfl⟩
      rw [← hz]
      have HZ := hidI (show 0 ≤ z ∧ z ≤ 262145 ∧ (z ≤ 262144 → (txTotal rs : Int) = z) from by
        have hy := HY.out
        rw [hz]
        split <;> omega)
      clear hz
      go_wp2_with fail
      go_ret
      exact ⟨z, rfl, HZ.out.1, HZ.out.2.1, HZ.out.2.2, HB.out⟩

set_option maxHeartbeats 2000000 in
theorem sameplan_any {ao bo : Option Addr} {ca cb : Nat} {l m : List PlaceD} (ha : RdT encP w 5 (.slice ao l.length ca) l) (hb : RdT encP w 5 (.slice bo m.length cb) m) (h1 : l.length ≤ 9000000000000000000) (h2 : m.length ≤ 9000000000000000000) (x1 x2 s1 s2 : Int) :
    Calls Tryz.prog 28 #[.agg #[.int .i64 x1, .slice ao l.length ca, .int .i64 s1], .agg #[.int .i64 x2, .slice bo m.length cb, .int .i64 s2]] w fun e w' => ∃ b, e = .returned (.bool b) ∧ (b = true ↔ x1 = x2 ∧ s1 = s2 ∧ l = m) ∧ Below w.heap.size w w' := by
  have HA := hidI ha
  have HB := hidI hb
  have H1 := hidI h1
  have H2 := hidI h2
  clear ha hb h1 h2
  have hbt : Below w.heap.size w ((w.alloc (.cells #[.int .i64 x1, .slice ao l.length ca, .int .i64 s1] 46)).alloc (.cells #[.int .i64 x2, .slice bo m.length cb, .int .i64 s2] 46)) := ((Below.refl _ _).alloc (Nat.le_refl _) _).alloc (by simp) _
  have HBT := hidI hbt
  clear hbt
  by_cases hx : x1 = x2
  · by_cases hs : s1 = s2
    · have q1 : (x1 == x2) = true := by simpa using hx
      have q2 : (s1 == s2) = true := by simpa using hs
      have HX := hidI hx
      have HS := hidI hs
      clear hx hs
      go_enter Tryz.func28, Tryz.ntmps28
      go_wp2_with fail
      refine (sameP_any (Rd.below HA.out HBT.out) (Rd.below HB.out HBT.out) H1.out H2.out).mono ?_
      rintro e w1 ⟨b, rfl, hbe, hb⟩
      have HBE := hidI hbe
      have HBX := hidI (bnext HBT.out hb)
      clear hbe hb
      go_wp2_with fail
      go_ret
      exact ⟨b, rfl, ⟨fun h => ⟨HX.out, HS.out, HBE.out.1 h⟩, fun h => HBE.out.2 h.2.2⟩, HBX.out⟩
    · have q1 : (x1 == x2) = true := by simpa using hx
      have q2 : (s1 == s2) = false := by simpa using hs
      have HS := hidI hs
      clear hx hs
      go_enter Tryz.func28, Tryz.ntmps28
      go_wp2_with fail
      go_ret
      exact ⟨false, rfl, ⟨fun h => (by cases h), fun h => absurd h.2.1 HS.out⟩, HBT.out⟩
  · have q1 : (x1 == x2) = false := by simpa using hx
    have HX := hidI hx
    clear hx
    go_enter Tryz.func28, Tryz.ntmps28
    go_wp2_with fail
    go_ret
    exact ⟨false, rfl, ⟨fun h => (by cases h), fun h => absurd h.1 HX.out⟩, HBT.out⟩
end

section
variable {w w' : World}
theorem all_take {α : Type} {l : List α} {f : α → Bool} (h : ∀ x ∈ l, f x = true) : l.all f = true := List.all_eq_true.2 h
theorem mem_take_snoc {α : Type} {l : List α} {j : Nat} {x y : α} (h : l[j]? = some x) (hy : y ∈ l.take (j + 1)) : y ∈ l.take j ∨ y = x := by
  rw [take_snoc h] at hy
  rcases List.mem_append.1 hy with hy | hy
  · exact .inl hy
  · exact .inr (by simpa using hy)

def MayPost (words : Int) (ts : Ths) (w : World) (e : Ending) (w' : World) : Prop := ∃ b, e = .returned (.bool b) ∧ (b = true ↔ ∀ t ∈ ts, okRows words t.2 = true) ∧ Below w.heap.size w w'

set_option maxRecDepth 100000 in
set_option maxHeartbeats 4000000 in
theorem may_any {ta : Option Addr} {tc : Nat} {ts : Ths} (h : ThsAt w (.slice ta ts.length tc) ts) (hl : ts.length ≤ 9000000000000) (words : Int) :
    Calls Tryz.prog 12 #[.int .i64 words, .slice ta ts.length tc] w (MayPost words ts w) := by
  have H := hidI h
  have HL := hidI hl
  clear h
  go_enter Tryz.func12, Tryz.ntmps12
  go_wp2_with fail
  go_loopw [5] (fun i wr => ∃ a : Nat, a ≤ ts.length ∧ i = .int .i64 (a : Int) ∧ wr = w ∧ Hid (∀ t ∈ ts.take a, okRows words t.2 = true)) (fun i _ => ts.length - (intOf i).toNat)
  case atStart => exact ⟨0, Nat.zero_le _, rfl, rfl, fun t ht => by simp at ht⟩
  case round =>
    obtain ⟨a, ha, rfl, rfl, HA⟩ := hrel
    have hll := HL.out
    by_cases hlt : a < ts.length
    · obtain ⟨t, hx⟩ := some_at hlt
      obtain ⟨g, off, rfl, hg, hc⟩ := RdT.at encR2_len H.out.rows hx
      have hrows := H.out.each t (List.mem_of_getElem? hx)
      obtain ⟨ra, rc, hrv⟩ := rd_shape hrows.rows
      have d0 : wr.cell? ⟨g, off + a, none⟩ = some (.slice ra t.2.length rc) := by have := hc 0 _ rfl; rw [← hrv]; simpa [encR2] using this
      have htl : t.2.length ≤ 262144 := by
        have h1 := H.out.tot t (List.mem_of_getElem? hx)
        unfold txTotal at h1
        have h2 : ∀ l : List (Value × List Tx), l.length ≤ (l.map fun p => p.2.length + 1).sum := by
          intro l
          induction l with
          | nil => simp
          | cons q r ih => simp only [List.length_cons, List.map_cons, List.sum_cons]; omega
        exact Nat.le_trans (h2 _) h1
      have htt := H.out.tot t (List.mem_of_getElem? hx)
      rw [hrv] at hrows
      have HT := hidI hx
      have HR := hidI hrows
      have HTT := hidI htt
      have HLT := hidI hlt
      clear hx hc hrv hrows htt
      go_wp2_with fail
      go_loopw [6] (fun k wr' => ∃ b : Nat, b ≤ t.2.length ∧ k = .int .i64 (b : Int) ∧ wr' = wr ∧ Hid (∀ p ∈ t.2.take b, p.2.all (okTx words) = true)) (fun k _ => t.2.length - (intOf k).toNat)
      case atStart => exact ⟨0, Nat.zero_le _, rfl, rfl, fun t ht => by simp at ht⟩
      case round =>
        obtain ⟨b, hb, rfl, rfl, HB⟩ := hrel
        by_cases hlt2 : b < t.2.length
        · obtain ⟨p, hx⟩ := some_at hlt2
          obtain ⟨g2, off2, hra, hg2, hc⟩ := RdT.at (enc := encR) (fun _ => rfl) HR.out.rows hx
          obtain ⟨pa, pc, hpv⟩ := rd_shape (HR.out.each p (List.mem_of_getElem? hx))
          have d1 : wr.cell? ⟨g2, off2 + b, none⟩ = some (.slice pa p.2.length pc) := by have := hc 0 _ rfl; rw [← hpv]; simpa [encR] using this
          have hpl : p.2.length ≤ 262144 := by
            have h1 := HTT.out
            have h2 := bn_total_take t.2 (b + 1)
            rw [txTotal_step hx] at h2
            omega
          have hp := HR.out.each p (List.mem_of_getElem? hx)
          rw [hpv] at hp
          subst hra
          have HP := hidI hp
          have HX := hidI hx
          clear hx hc hpv hp
          go_wp2_with fail
          go_loopw [8] (fun n wr' => ∃ c : Nat, c ≤ p.2.length ∧ n = .int .i64 (c : Int) ∧ wr' = wr ∧ Hid (∀ o ∈ p.2.take c, okTx words o = true)) (fun n _ => p.2.length - (intOf n).toNat)
          case atStart => exact ⟨0, Nat.zero_le _, rfl, rfl, fun t ht => by simp at ht⟩
          case round =>
            obtain ⟨c, hc, rfl, rfl, HC⟩ := hrel
            by_cases hlt3 : c < p.2.length
            · obtain ⟨o, hx⟩ := some_at hlt3
              obtain ⟨g3, off3, hpa, hg3, hcc⟩ := RdT.at encTxD_len HP.out hx
              subst hpa
              obtain ⟨oth, kind, oa, ov⟩ := o
              have e1 : wr.cell? ⟨g3, off3 + c * 4 + 1, none⟩ = some (.int .u8 kind) := hcc 1 _ rfl
              have e2 : wr.cell? ⟨g3, off3 + c * 4 + 2, none⟩ = some (.int .i64 oa) := hcc 2 _ rfl
              have HO := hidI hx
              clear hx hcc
              have HLT3 := hidI hlt3
              by_cases hk : kind = 2 ∨ kind = 3
              · by_cases h1 : oa < 1
                · have HE := hidI (show okTx words ⟨oth, kind, oa, ov⟩ = false from by simp [okTx]; omega)
                  have HNO := hidI (show ¬ ∀ t ∈ ts, okRows words t.2 = true from fun hall => by
                  have h1 := List.all_eq_true.1 (hall t (List.mem_of_getElem? HT.out)) p (List.mem_of_getElem? HX.out)
                  have h2 := List.all_eq_true.1 h1 _ (List.mem_of_getElem? HO.out)
                  rw [HE.out] at h2
                  cases h2)
                  have q1 : decide (oa < 1) = true := decide_eq_true h1
                  rcases hk with rfl | rfl
                  all_goals (
                    go_wp2_with fail
                    go_ret
                    exact ⟨false, rfl, ⟨fun h => (by cases h), fun h => absurd h HNO.out⟩, Below.refl _ _⟩)
                · have q1 : decide (oa < 1) = false := decide_eq_false h1
                  by_cases h2 : oa > words
                  · have HE := hidI (show okTx words ⟨oth, kind, oa, ov⟩ = false from by simp [okTx]; omega)
                    have HNO := hidI (show ¬ ∀ t ∈ ts, okRows words t.2 = true from fun hall => by
                    have h1 := List.all_eq_true.1 (hall t (List.mem_of_getElem? HT.out)) p (List.mem_of_getElem? HX.out)
                    have h2 := List.all_eq_true.1 h1 _ (List.mem_of_getElem? HO.out)
                    rw [HE.out] at h2
                    cases h2)
                    have q2 : decide (oa > words) = true := decide_eq_true h2
                    rcases hk with rfl | rfl
                    all_goals (
                      go_wp2_with fail
                      go_ret
                      exact ⟨false, rfl, ⟨fun h => (by cases h), fun h => absurd h HNO.out⟩, Below.refl _ _⟩)
                  · have HC' := hidI (show ∀ u ∈ p.2.take (c + 1), okTx words u = true from fun u hu => by
                      rcases mem_take_snoc HO.out hu with hu | rfl
                      · exact HC.out u hu
                      · simp [okTx]; omega)
                    have q2 : decide (oa > words) = false := decide_eq_false h2
                    rcases hk with rfl | rfl
                    all_goals (
                      go_wp2_with fail
                      exact ⟨⟨c + 1, by omega, by go_num, trivial, HC'⟩, by simp [intOf]; omega⟩)
              · have HE := hidI (show okTx words ⟨oth, kind, oa, ov⟩ = false from by simp [okTx]; omega)
                have HNO := hidI (show ¬ ∀ t ∈ ts, okRows words t.2 = true from fun hall => by
                have h1 := List.all_eq_true.1 (hall t (List.mem_of_getElem? HT.out)) p (List.mem_of_getElem? HX.out)
                have h2 := List.all_eq_true.1 h1 _ (List.mem_of_getElem? HO.out)
                rw [HE.out] at h2
                cases h2)
                have q1 : (kind != 2) = true := by simp; omega
                have q2 : (kind != 3) = true := by simp; omega
                clear hk
                go_wp2_with fail
                go_ret
                exact ⟨false, rfl, ⟨fun h => (by cases h), fun h => absurd h HNO.out⟩, Below.refl _ _⟩
            · obtain rfl : c = p.2.length := by omega
              have hc' := HC.out
              rw [List.take_length] at hc'
              have HB' := hidI (show ∀ q ∈ t.2.take (b + 1), q.2.all (okTx words) = true from fun q hq => by
                rcases mem_take_snoc HX.out hq with hq | rfl
                · exact HB.out q hq
                · exact all_take hc')
              clear hc'
              go_wp2_with fail
              exact ⟨⟨b + 1, by omega, by go_num, trivial, HB'⟩, by simp [intOf]; omega⟩
        · obtain rfl : b = t.2.length := by omega
          have hb' := HB.out
          rw [List.take_length] at hb'
          have HA' := hidI (show ∀ u ∈ ts.take (a + 1), okRows words u.2 = true from fun u hu => by
            rcases mem_take_snoc HT.out hu with hu | rfl
            · exact HA.out u hu
            · exact all_take hb')
          clear hb'
          have hlt := HLT.out
          go_wp2_with fail
          exact ⟨⟨a + 1, by omega, by go_num, trivial, HA'⟩, by simp [intOf]; omega⟩
    · obtain rfl : a = ts.length := by omega
      have ha' := HA.out
      rw [List.take_length] at ha'
      have HA' := hidI ha'
      clear ha'
      go_wp2_with fail
      go_ret
      exact ⟨true, rfl, ⟨fun _ => HA'.out, fun _ => rfl⟩, Below.refl _ _⟩

def FewS (words : Int) (ts : Ths) : Prop := (∀ t ∈ ts, t.2.length ≤ 16 ∧ ∀ p ∈ t.2, p.2.length ≤ 8) ∧ 0 ≤ words ∧ words ≤ 65536 ∧ ts.length ≤ 4
def FewPost (words : Int) (ts : Ths) (w : World) (e : Ending) (w' : World) : Prop := ∃ b, e = .returned (.bool b) ∧ (b = true → FewS words ts) ∧ Below w.heap.size w w'
set_option maxRecDepth 100000 in
set_option maxHeartbeats 4000000 in
theorem few_any {ta : Option Addr} {tc : Nat} {ts : Ths} (h : ThsAt w (.slice ta ts.length tc) ts) (hl : ts.length ≤ 9000000000000) (words : Int) :
    Calls Tryz.prog 10 #[.int .i64 words, .slice ta ts.length tc] w (FewPost words ts w) := by
  have H := hidI h
  have HL := hidI hl
  clear h
  go_enter Tryz.func10, Tryz.ntmps10
  go_wp2_with fail
  go_loopw [5] (fun i wr => ∃ a : Nat, a ≤ ts.length ∧ i = .int .i64 (a : Int) ∧ wr = w ∧ Hid (∀ t ∈ ts.take a, t.2.length ≤ 16 ∧ ∀ p ∈ t.2, p.2.length ≤ 8)) (fun i _ => ts.length - (intOf i).toNat)
  case atStart => exact ⟨0, Nat.zero_le _, rfl, rfl, fun t ht => by simp at ht⟩
  case round =>
    obtain ⟨a, ha, rfl, rfl, HA⟩ := hrel
    have hll := HL.out
    by_cases hlt : a < ts.length
    · obtain ⟨t, hx⟩ := some_at hlt
      obtain ⟨g, off, rfl, hg, hc⟩ := RdT.at encR2_len H.out.rows hx
      have hrows := H.out.each t (List.mem_of_getElem? hx)
      obtain ⟨ra, rc, hrv⟩ := rd_shape hrows.rows
      have d0 : wr.cell? ⟨g, off + a, none⟩ = some (.slice ra t.2.length rc) := by have := hc 0 _ rfl; rw [← hrv]; simpa [encR2] using this
      rw [hrv] at hrows
      have HT := hidI hx
      have HR := hidI hrows
      have HLT := hidI hlt
      clear hx hc hrv hrows
      by_cases h16 : t.2.length ≤ 16
      · have q1 : decide ((t.2.length : Int) > 16) = false := decide_eq_false (by omega)
        go_wp2_with fail
        go_loopw [6] (fun k wr' => ∃ b : Nat, b ≤ t.2.length ∧ k = .int .i64 (b : Int) ∧ wr' = wr ∧ Hid (∀ p ∈ t.2.take b, p.2.length ≤ 8)) (fun k _ => t.2.length - (intOf k).toNat)
        case atStart => exact ⟨0, Nat.zero_le _, rfl, rfl, fun t ht => by simp at ht⟩
        case round =>
          obtain ⟨b, hb, rfl, rfl, HB⟩ := hrel
          by_cases hlt2 : b < t.2.length
          · obtain ⟨p, hx⟩ := some_at hlt2
            obtain ⟨g2, off2, hra, hg2, hc⟩ := RdT.at (enc := encR) (fun _ => rfl) HR.out.rows hx
            obtain ⟨pa, pc, hpv⟩ := rd_shape (HR.out.each p (List.mem_of_getElem? hx))
            have d1 : wr.cell? ⟨g2, off2 + b, none⟩ = some (.slice pa p.2.length pc) := by have := hc 0 _ rfl; rw [← hpv]; simpa [encR] using this
            subst hra
            have HX := hidI hx
            clear hx hc hpv
            by_cases h8 : p.2.length ≤ 8
            · have q2 : decide ((p.2.length : Int) > 8) = false := decide_eq_false (by omega)
              have HB' := hidI (show ∀ q ∈ t.2.take (b + 1), q.2.length ≤ 8 from fun q hq => by
                rcases mem_take_snoc HX.out hq with hq | rfl
                · exact HB.out q hq
                · exact h8)
              go_wp2_with fail
              exact ⟨⟨b + 1, by omega, by go_num, trivial, HB'⟩, by simp [intOf]; omega⟩
            · have q2 : decide ((p.2.length : Int) > 8) = true := decide_eq_true (by omega)
              go_wp2_with fail
              go_ret
              exact ⟨false, rfl, fun h => (by cases h), Below.refl _ _⟩
          · obtain rfl : b = t.2.length := by omega
            have hb' := HB.out
            rw [List.take_length] at hb'
            have HA' := hidI (show ∀ u ∈ ts.take (a + 1), u.2.length ≤ 16 ∧ ∀ p ∈ u.2, p.2.length ≤ 8 from fun u hu => by
              rcases mem_take_snoc HT.out hu with hu | rfl
              · exact HA.out u hu
              · exact ⟨h16, hb'⟩)
            clear hb'
            have hlt := HLT.out
            go_wp2_with fail
            exact ⟨⟨a + 1, by omega, by go_num, trivial, HA'⟩, by simp [intOf]; omega⟩
      · have q1 : decide ((t.2.length : Int) > 16) = true := decide_eq_true (by omega)
        go_wp2_with fail
        go_ret
        exact ⟨false, rfl, fun h => (by cases h), Below.refl _ _⟩
    · obtain rfl : a = ts.length := by omega
      have ha' := HA.out
      rw [List.take_length] at ha'
      have HA' := hidI ha'
      clear ha'
      by_cases k1 : words ≥ 0
      · have q1 : decide (words ≥ 0) = true := decide_eq_true k1
        by_cases k2 : words ≤ 65536
        · have q2 : decide (words ≤ 65536) = true := decide_eq_true k2
          by_cases k3 : (ts.length : Int) ≤ 4
          · have q3 : decide ((ts.length : Int) ≤ 4) = true := decide_eq_true k3
            go_wp2_with fail
            go_ret
            exact ⟨true, rfl, fun _ => ⟨HA'.out, k1, k2, by omega⟩, Below.refl _ _⟩
          · have q3 : decide ((ts.length : Int) ≤ 4) = false := decide_eq_false k3
            go_wp2_with fail
            go_ret
            exact ⟨false, rfl, fun h => (by cases h), Below.refl _ _⟩
        · have q2 : decide (words ≤ 65536) = false := decide_eq_false k2
          go_wp2_with fail
          go_ret
          exact ⟨false, rfl, fun h => (by cases h), Below.refl _ _⟩
      · have q1 : decide (words ≥ 0) = false := decide_eq_false k1
        go_wp2_with fail
        go_ret
        exact ⟨false, rfl, fun h => (by cases h), Below.refl _ _⟩
end

section
variable {w w' : World}
theorem bn_beyond2 {b : Nat} {t : TypeId} {y z : Int} (hb : w.heap[b]? = some (.cells #[.int .i64 y, .int .i64 z] t (0, 0))) (hy : 0 ≤ y ∧ y ≤ 9223372036854775807) (hz : 0 ≤ z ∧ z ≤ 9223372036854775807) :
    Calls Tryz.prog 8 #[.slice (some ⟨b, 0, none⟩) 2 2] w fun e w' => ∃ r, e = .returned (.bool r) ∧ (r = false → y ≤ 262144 ∧ z ≤ 262144) ∧ Below w.heap.size w w' := by
  have x0 : w.cell? ⟨b, 0, none⟩ = some (.int .i64 y) := cell_of_block hb rfl
  have x1 : w.cell? ⟨b, 1, none⟩ = some (.int .i64 z) := cell_of_block hb rfl
  obtain ⟨hy0, hy1⟩ := hy
  obtain ⟨hz0, hz1⟩ := hz
  clear hb
  by_cases h1 : y > 262144
  · have hn0 : ¬ y < 0 := by omega
    go_enter Tryz.func8, Tryz.ntmps8
    go_wp2_with fail
    go_loopw [4, 3] (fun i acc wr => wr = w ∧ i = .int .i64 0 ∧ acc = .int .i64 0) (fun i _ _ => (2 - intOf i).toNat)
    case atStart => exact ⟨rfl, rfl, rfl⟩
    case round =>
      obtain ⟨rfl, rfl, rfl⟩ := hrel
      go_wp2
      go_ret
      exact ⟨true, rfl, by simp, Below.refl _ _⟩
  · have hn0 : ¬ y < 0 := by omega
    by_cases h2 : z > 262144
    · have hn1 : ¬ z < 0 := by omega
      go_enter Tryz.func8, Tryz.ntmps8
      go_wp2_with fail
      go_loopw [4, 3] (fun i acc wr => wr = w ∧ (i = .int .i64 0 ∧ acc = .int .i64 0 ∨ i = .int .i64 1 ∧ acc = .int .i64 y)) (fun i _ _ => (2 - intOf i).toNat)
      case atStart => exact ⟨rfl, .inl ⟨rfl, rfl⟩⟩
      case round =>
        obtain ⟨rfl, ⟨rfl, rfl⟩ | ⟨rfl, rfl⟩⟩ := hrel
        · go_wp2
          exact ⟨⟨trivial, .inr ⟨rfl, rfl⟩⟩, by simp [intOf]⟩
        · go_wp2
          go_ret
          exact ⟨true, rfl, by simp, Below.refl _ _⟩
    · have hn1 : ¬ z < 0 := by omega
      by_cases h3 : y + z > 262144
      · go_enter Tryz.func8, Tryz.ntmps8
        go_wp2_with fail
        go_loopw [4, 3] (fun i acc wr => wr = w ∧ (i = .int .i64 0 ∧ acc = .int .i64 0 ∨ i = .int .i64 1 ∧ acc = .int .i64 y)) (fun i _ _ => (2 - intOf i).toNat)
        case atStart => exact ⟨rfl, .inl ⟨rfl, rfl⟩⟩
        case round =>
          obtain ⟨rfl, ⟨rfl, rfl⟩ | ⟨rfl, rfl⟩⟩ := hrel
          · go_wp2
            exact ⟨⟨trivial, .inr ⟨rfl, rfl⟩⟩, by simp [intOf]⟩
          · go_wp2
            go_ret
            exact ⟨true, rfl, by simp, Below.refl _ _⟩
      · go_enter Tryz.func8, Tryz.ntmps8
        go_wp2_with fail
        go_loopw [4, 3] (fun i acc wr => wr = w ∧ (i = .int .i64 0 ∧ acc = .int .i64 0 ∨ i = .int .i64 1 ∧ acc = .int .i64 y ∨ i = .int .i64 2 ∧ acc = .int .i64 (y + z))) (fun i _ _ => (2 - intOf i).toNat)
        case atStart => exact ⟨rfl, .inl ⟨rfl, rfl⟩⟩
        case round =>
          obtain ⟨rfl, ⟨rfl, rfl⟩ | ⟨rfl, rfl⟩ | ⟨rfl, rfl⟩⟩ := hrel
          · go_wp2
            exact ⟨⟨trivial, .inr (.inl ⟨rfl, rfl⟩)⟩, by simp [intOf]⟩
          · go_wp2
            exact ⟨⟨trivial, .inr (.inr ⟨rfl, rfl⟩)⟩, by simp [intOf]⟩
          · go_wp2
            go_ret
            exact ⟨false, rfl, fun _ => ⟨by omega, by omega⟩, Below.refl _ _⟩


theorem fin_in (zs : List Int) : ∀ {s : Int × Bool}, (∀ n ∈ zs, 0 ≤ n) → InMem s.1 → InMem (fin zs s).1 := by
  induction zs with
  | nil => intro s _ h; exact h
  | cons n l ih =>
    intro s hz hs
    exact ih (fun x hx => hz x (List.mem_cons_of_mem _ hx)) (tk_ok (by decide) (tk_ok (by decide) (tk_ok (by decide) (tk_ok (hz n List.mem_cons_self) hs))))
theorem Planned.size {words size : Int} {ps : List PlaceD} (h : Planned words size ps) : 1 ≤ size ∧ size ≤ 262144 := by
  have hw := mkErr_words h.2.1
  have e : mkS words (framesOf ps) = (fin (framesOf ps) (s0 words)).1 := if_pos h.2.1
  rw [h.2.2.1] at e
  rw [e]
  exact fin_in _ (fun n hn => by
    obtain ⟨p, hp, rfl⟩ := List.mem_map.1 hn
    have := h.1 p hp
    omega) (tk_ok (by decide) (tk_ok hw.1 ⟨by decide, by decide⟩))
def GoodS (words size : Int) (ps : List PlaceD) (thread : Int) (rs : List (Value × List Tx)) : Prop := (Planned words size ps ∧ 0 ≤ thread ∧ thread < ps.length) ∧ okRows words rs = true
/-- what Straight answers, opened -/
def StrA (words size : Int) (ps : List PlaceD) (thread : Int) (rs : List (Value × List Tx)) (lo : Option Addr) (ln lc : Nat) (en : Int) (w' : World) : Prop :=
  (en = 1 ∧ ln = 0 ∧ ¬ GoodS words size ps thread rs) ∨
  (en = 3 ∧ ln = 0 ∧ GoodS words size ps thread rs ∧ ¬ ((∀ p ∈ rs, p.2.length ≤ 8) ∧ rs.length ≤ 16)) ∨
  (en = 0 ∧ GoodS words size ps thread rs ∧ ∃ l, l.length = ln ∧ RdT encOp w' 6 (.slice lo ln lc) l ∧ AllOk l ∧ l.length ≤ 262144)
theorem StrA.of {words size : Int} {ps : List PlaceD} {thread : Int} {rs : List (Value × List Tx)} {e : Ending} (h : StraightPost words size ps thread rs w e w') (hwf : ∀ p ∈ rs, ∀ o ∈ p.2, TxWf o) :
    ∃ lo ln lc en, e = .returned (.tuple #[.slice lo ln lc, .int .i64 en]) ∧ StrA words size ps thread rs lo ln lc en w' ∧ Below w.heap.size w w' := by
  obtain ⟨hb, hr⟩ := h
  rcases hr with ⟨rfl, hn⟩ | ⟨k, p, rfl, hx, hpl, hok, ⟨rfl, j, hj, hov⟩ | ⟨g, rfl, hblk, hg, hov, hlen⟩⟩
  · exact ⟨none, 0, 0, 1, rfl, .inl ⟨rfl, rfl, fun q => hn ⟨q.1.1, q.1.2.1, q.1.2.2, q.2⟩⟩, hb⟩
  · have hk := (List.getElem?_eq_some_iff.1 hx).1
    refine ⟨none, 0, 0, 3, rfl, .inr (.inl ⟨rfl, rfl, ⟨⟨hpl, by omega, by omega⟩, hok⟩, fun hf => ?_⟩), hb⟩
    have h1 := rowsLen_few (rs := rs.map Prod.snd) (fun l hl => by
      obtain ⟨q, hq, rfl⟩ := List.mem_map.1 hl
      exact hf.1 q hq)
    rw [List.length_map] at h1
    have h2 := prog_fits_take (t := txOf words size p k) (rs := rs.map Prod.snd) (by unfold progLen; have := hf.2; omega) j
    rw [← List.map_take] at h2
    rcases hov with hov | hov
    · rw [h2.1] at hov; cases hov
    · rw [h2.2] at hov; cases hov
  · have hk := (List.getElem?_eq_some_iff.1 hx).1
    have hroom := prog_room hov
    obtain ⟨-, hd, hl⟩ := prog_fits (t := txOf words size p k) hroom
    rw [hd] at hblk
    rw [hl] at hlen ⊢
    rw [← xprog_len (txOf words size p k)] at hlen ⊢
    exact ⟨_, _, _, 0, rfl, .inr (.inr ⟨rfl, ⟨⟨hpl, by omega, by omega⟩, hok⟩, _, rfl, bn_lit encOp_len hblk, prog_ok (hpl.ok hx) hroom (fun l hl => by
      obtain ⟨q, hq, rfl⟩ := List.mem_map.1 hl
      exact hwf q hq), hlen⟩), hb⟩

theorem StrA.bad {words size : Int} {ps : List PlaceD} {thread : Int} {rs : List (Value × List Tx)} {lo : Option Addr} {ln lc : Nat} {en : Int} (h : StrA words size ps thread rs lo ln lc en w) (hn : ¬ GoodS words size ps thread rs) : en = 1 ∧ ln = 0 := by
  rcases h with ⟨h1, h2, -⟩ | ⟨-, -, h3, -⟩ | ⟨-, h3, -⟩
  · exact ⟨h1, h2⟩
  · exact absurd h3 hn
  · exact absurd h3 hn
theorem one_thread {ra : Option Addr} {rc : Nat} {rs : List (Value × List Tx)} {T : TypeId} (hr : RowsAt w (.slice ra rs.length rc) rs) (ht : txTotal rs ≤ 262144) : ThsAt (w.alloc (.cells #[.slice ra rs.length rc] T)) (.slice (some ⟨w.heap.size, 0, none⟩) 1 1) [(.slice ra rs.length rc, rs)] :=
  thsAt_lit (ts := [(.slice ra rs.length rc, rs)]) (block_new w _) (fun p hp => by
    rw [List.mem_singleton.1 hp]
    exact hr.below ((Below.refl _ _).alloc (Nat.le_refl _) _)) (fun p hp => by
    rw [List.mem_singleton.1 hp]
    exact ht)

set_option maxRecDepth 100000 in
set_option maxHeartbeats 16000000 in
theorem lawstraight_any {tao ra : Option Addr} {tcap rc : Nat} {ps : List PlaceD} {rs : List (Value × List Tx)} (hp : RdT encP w 5 (.slice tao ps.length tcap) ps) (hr : RowsAt w (.slice ra rs.length rc) rs)
    (hpl : ps.length ≤ 9223372036854775807) (hrl : rs.length ≤ 9223372036854775807) (he : ∀ p ∈ rs, p.2.length ≤ 9223372036854775807) (hwf : ∀ p ∈ rs, ∀ o ∈ p.2, TxWf o) (words size thread : Int) :
    Calls Tryz.prog 6 #[.agg #[.int .i64 words, .slice tao ps.length tcap, .int .i64 size], .int .i64 thread, .slice ra rs.length rc] w fun e w' => e = .returned (.bool true) ∧ Below w.heap.size w w' := by
  have HP := hidI hp
  have HR := hidI hr
  have HE := hidI he
  have HWF := hidI hwf
  have HPL := hidI hpl
  have HRL := hidI hrl
  clear hp hr he hwf
  go_enter Tryz.func6, Tryz.ntmps6
  go_upto_region 1 with fail
  have HB0 := hidI ((Below.refl w.heap.size w).alloc (Nat.le_refl _) (.cells #[.int .i64 words, .slice tao ps.length tcap, .int .i64 size] 46))
  have HX0 := hidI (block_new w (.cells #[.int .i64 words, .slice tao ps.length tcap, .int .i64 size] 46))
  generalize w.alloc (.cells #[.int .i64 words, .slice tao ps.length tcap, .int .i64 size] 46) = w0 at HB0 HX0 ⊢
  obtain ⟨bp, hbp⟩ : ∃ b, b = w.heap.size := ⟨_, rfl⟩
  rw [← hbp] at HX0 ⊢
  have HBP := hidI (show w.heap.size ≤ bp from by omega)
  clear hbp
  have x1 : w0.cell? ⟨bp, 1, none⟩ = some (.slice tao ps.length tcap) := cell_of_block HX0.out rfl
  have hbl := lt_of_block HX0.out
  have HTX := hidI (show ∀ W, Below w0.heap.size w0 W → Calls Tryz.prog 26 #[.slice ra rs.length rc] W fun e w' => ∃ z : Int, e = .returned (.int .i64 z) ∧ Hid (0 ≤ z ∧ z ≤ 262145 ∧ (z ≤ 262144 → (txTotal rs : Int) = z)) ∧ Hid (Below w0.heap.size w0 w') from fun W hW => (txsize_any (HR.out.below (HB0.out.trans (hW.mono HB0.out.size))) HRL.out HE.out).mono fun e w' ⟨z, h1, h2, h3, h4, h5⟩ => ⟨z, h1, ⟨h2, h3, h4⟩, bnext hW h5⟩)
  have HBY := hidI (show ∀ W (z : Int), Below w0.heap.size w0 W → (0 ≤ z ∧ z ≤ 262145 ∧ (z ≤ 262144 → (txTotal rs : Int) = z)) → Calls Tryz.prog 8 #[.slice (some ⟨W.heap.size, 0, none⟩) 2 2] (W.alloc (.cells #[.int .i64 z, .int .i64 (ps.length : Int)] 3)) fun e w' => ∃ r, e = .returned (.bool r) ∧ Hid (r = false → txTotal rs ≤ 262144 ∧ ps.length ≤ 262144) ∧ Hid (Below w0.heap.size w0 w') from fun W z hW hz =>
    (bn_beyond2 (y := z) (z := (ps.length : Int)) (block_new W _) ⟨hz.1, by omega⟩ ⟨by omega, by have := HPL.out; omega⟩).mono fun e w' ⟨r, h1, h2, h3⟩ => ⟨r, h1, fun h => by have := h2 h; have := hz.2.2; omega, bnext hW (bnext ((Below.refl _ _).alloc (Nat.le_refl _) _) h3)⟩)
  go_cut [22] from 16 to 22 (fun v wx => ∃ r, v = .bool r ∧ Hid (r = false → txTotal rs ≤ 262144 ∧ ps.length ≤ 262144) ∧ Hid (Below w0.heap.size w0 wx))
  case first =>
    have hdr : Below w0.heap.size w0 w0.drew := (Below.refl _ _).drew
    have hll := HPL.out
    go_region_with (first
      | (go_at_call 8; with_reducible (refine (HBY.out _ _ hb1.out hz.out).mono ?_); rintro e w2 ⟨r, rfl, hr, hb2⟩)
      | (go_at_call 26; with_reducible (refine (HTX.out _ hdr).mono ?_); rintro e w1 ⟨z, rfl, hz, hb1⟩; have x1' : w1.cell? ⟨bp, 1, none⟩ = some (.slice tao ps.length tcap) := (hb1.out.cell hbl).trans x1))
    all_goals (go_wp2_with fail; go_meet; exact ⟨_, rfl, hr, hb2⟩)
  case rest =>
    obtain ⟨r, rfl, HR22, HB1⟩ := hcut
    clear HTX HBY x1 hbl
    cases r with
    | true =>
      have HBX := hidI (bnext HB0.out HB1.out)
      go_wp2_with fail
      go_ret
      exact ⟨rfl, HBX.out⟩
    | false =>
      have HTOT := hidI (HR22.out rfl)
      have HBX := hidI (bnext HB0.out HB1.out)
      have hx1 := blk HB1.out HX0.out
      have HX1 := hidI hx1
      have x0 : wc.cell? ⟨bp, 0, none⟩ = some (.int .i64 words) := cell_of_block hx1 rfl
      have x1 : wc.cell? ⟨bp, 1, none⟩ = some (.slice tao ps.length tcap) := cell_of_block hx1 rfl
      have x2 : wc.cell? ⟨bp, 2, none⟩ = some (.int .i64 size) := cell_of_block hx1 rfl
      clear hx1 HR22 HB1 HB0 HX0
      go_wp2_with fail
      refine (straight_any (Rd.below HP.out HBX.out) (HR.out.below HBX.out) HTOT.out.2 HTOT.out.1 words size thread).mono ?_
      intro e w2 hsp
      obtain ⟨lo, ln, lc, en, rfl, hst, hb2⟩ := StrA.of hsp HWF.out
      have HST := hidI hst
      have HB2 := hidI (bnext HBX.out hb2)
      have hx2 := blk hb2 HX1.out
      have HX2 := hidI hx2
      have hpl := HTOT.out.2
      clear hsp hst hb2 x0 x1 x2 HX1 HBX
      obtain ⟨i0, hi, hz0, hz1, hz2⟩ := info_parts emIntInfo
      have x0 : w2.cell? ⟨bp, 0, none⟩ = some (.int .i64 words) := cell_of_block hx2 rfl
      have x1 : w2.cell? ⟨bp, 1, none⟩ = some (.slice tao ps.length tcap) := cell_of_block hx2 rfl
      clear hx2
      go_wp2_with fail
      go_loopw [9, 10, 11] (fun v f i wr => ∃ (j : Nat) (ao : Option Addr) (cp : Nat) (b : Bool), j ≤ ps.length ∧ i = .int .i64 (j : Int) ∧ v = .slice ao j cp ∧ f = .bool b ∧ Hid (wr.ownsRow w2.heap.size 3 1 (.slice ao j cp) j ((framesOf (ps.take j)).map (Value.int .i64))) ∧ Hid (b = true ↔ ∀ p ∈ ps.take j, 32 ≤ frameOf p) ∧ Hid (Below w2.heap.size w2 wr)) (fun _ _ i _ => ps.length - (intOf i).toNat)
      case atStart => exact ⟨0, none, 0, true, Nat.zero_le _, rfl, rfl, rfl, hidI (World.ownsRow_nil _ _ _ _), hidI ⟨fun _ p hp => by simp at hp, fun _ => rfl⟩, hidI (Below.refl _ _)⟩
      case round =>
        obtain ⟨j, ao, cp, b, hj, rfl, rfl, rfl, HO, HG, HB⟩ := hrel
        clear x0 x1
        have hpl := HTOT.out.2
        have hxr := blk HB.out HX2.out
        have x0 : wr.cell? ⟨bp, 0, none⟩ = some (.int .i64 words) := cell_of_block hxr rfl
        have x1 : wr.cell? ⟨bp, 1, none⟩ = some (.slice tao ps.length tcap) := cell_of_block hxr rfl
        have x2 : wr.cell? ⟨bp, 2, none⟩ = some (.int .i64 size) := cell_of_block hxr rfl
        have HXR := hidI hxr
        clear hxr
        by_cases hlt : j < ps.length
        · obtain ⟨⟨xa, xb, xc, xd, xe⟩, hx⟩ := some_at hlt
          obtain ⟨g, off, rfl, hg, hc⟩ := RdT.at encP_len (Rd.below HP.out (bnext HB2.out HB.out)) hx
          have d0 := hc 0 _ rfl
          have d1 : wr.cell? ⟨g, off + j * 5 + 1, none⟩ = some (.int .i64 xb) := hc 1 _ rfl
          simp only [Nat.add_zero] at d0
          have HX := hidI hx
          have HTK := hidI (take_snoc hx)
          have HJ := hidI hlt
          clear hx hc
          go_upto_region 9 with fail
          go_region
          go_wp2_with (at_builtin; refine Hid.out ?_)
          have hch : Chg (fun _ => False) wr (wr.alloc (.cells #[.int .i64 (wrap64 (xb - xa))] 3)).drew := ((Chg.refl (fun _ => False) wr).alloc _).drew
          refine wpList_append_d _ rfl _ _ 72 rfl w2.heap.size 3 i0 _ 1 8 Tryz.underlying72 hi hz0 hz1 hz2 rfl (by decide) (.slice ao j cp) j _ (by simp [Act.eval]) (ownsRow_chg HO.out hch (fun _ _ => id)) ⟨wr.heap.size, 0, none⟩ 1 1 [.int .i64 (wrap64 (xb - xa))] (by simp [Act.eval]) rfl ?c1 ?c2 ?c3 ?c4 ?c5 ?_
          case c1 => exact news_at (show (wr.alloc (.cells #[.int .i64 (wrap64 (xb - xa))] 3)).drew.heap[wr.heap.size]? = _ from block_new _ _)
          case c2 => exact one_emint _
          case c3 => have := HTOT.out.2; have := HJ.out; unfold maxLen; omega
          case c4 => have := HTOT.out.2; have := HJ.out; omega
          case c5 => have := HB.out.size; have := hch.size; omega
          intro ao5 cp5 w5 hown hfrom hgrown
          have hc5 : Chg (fun k => w2.heap.size ≤ k) wr w5 := (((Chg.refl (fun k => w2.heap.size ≤ k) wr).alloc _).drew).grown hgrown (fun k hk => .inl (HO.out.lt k hk).1)
          have HB5 := hidI (hc5.below HB.out HB.out.size (fun k hk => hk))
          have HO5 := hidI (show w5.ownsRow w2.heap.size 3 1 (.slice ao5 (j + 1) cp5) (j + 1) ((framesOf (ps.take (j + 1))).map (Value.int .i64)) from by rw [HTK.out]; unfold framesOf; rw [List.map_append, List.map_append]; exact hown)
          clear hown hfrom hgrown hc5 hch d0 d1 x0 x1 x2
          cases b with
          | false =>
            have HG5 := hidI (show (false = true ↔ ∀ p ∈ ps.take (j + 1), 32 ≤ frameOf p) from ⟨fun h => (by cases h), fun h => HG.out.2 (fun p hp => h p (by rw [HTK.out]; exact List.mem_append_left _ hp))⟩)
            go_wp2_with fail
            exact ⟨⟨j + 1, ao5, cp5, false, by omega, by go_num, rfl, rfl, HO5, HG5, HB5⟩, by simp [intOf]; omega⟩
          | true =>
            by_cases h32 : wrap64 (xb - xa) ≥ 32
            · have q1 : decide (wrap64 (xb - xa) ≥ 32) = true := decide_eq_true h32
              have HG5 := hidI (show (true = true ↔ ∀ p ∈ ps.take (j + 1), 32 ≤ frameOf p) from ⟨fun _ p hp => by
                rcases mem_take_snoc HX.out hp with hp | rfl
                · exact HG.out.1 rfl p hp
                · exact h32, fun _ => rfl⟩)
              go_wp2_with fail
              exact ⟨⟨j + 1, ao5, cp5, true, by omega, by go_num, rfl, rfl, HO5, HG5, HB5⟩, by simp [intOf]; omega⟩
            · have q1 : decide (wrap64 (xb - xa) ≥ 32) = false := decide_eq_false h32
              have HG5 := hidI (show (false = true ↔ ∀ p ∈ ps.take (j + 1), 32 ≤ frameOf p) from ⟨fun h => (by cases h), fun h => absurd (show wrap64 (xb - xa) ≥ 32 from h ⟨xa, xb, xc, xd, xe⟩ (by rw [HTK.out]; exact List.mem_append_right _ List.mem_cons_self)) h32⟩)
              go_wp2_with fail
              exact ⟨⟨j + 1, ao5, cp5, false, by omega, by go_num, rfl, rfl, HO5, HG5, HB5⟩, by simp [intOf]; omega⟩
        · obtain rfl : j = ps.length := by omega
          have ho := HO.out
          have hg := HG.out
          rw [List.take_length] at ho hg
          have HG' := hidI hg
          have hfl : (framesOf ps).length = ps.length := by unfold framesOf; rw [List.length_map]
          have HFL := hidI hfl
          have HINTS := hidI (show Ints wr (.slice ao (framesOf ps).length cp) (framesOf ps) from by have h9 := Rd.of_own ho; rw [hfl]; exact ints_of h9 hfl.symm)
          rw [hfl] at HINTS
          clear ho hg hfl
          go_wp2_with fail
          refine ((show Calls Tryz.prog 18 #[.int .i64 words, .slice ao ps.length cp] wr (MkPost words (framesOf ps) wr) from by have h9 := make_any words ao (framesOf ps) cp wr (by rw [HFL.out]; exact HINTS.out) (by rw [HFL.out]; omega); rw [HFL.out] at h9; exact h9)).mono ?_
          intro e w3 hm
          obtain ⟨mo, mc, rfl, hmo, hb3⟩ := MkU.of hm
          have HMO := hidI (Rd.of_own hmo)
          have hb23 := bnext HB.out hb3
          have HB3 := hidI hb23
          have hx3 := blk hb23 HX2.out
          have HX3 := hidI hx3
          have HP3 := hidI (Rd.below HP.out (bnext HB2.out hb23))
          have HML := hidI (mkP_len words (framesOf ps))
          have HPN := hidI (show Planned words size ps ↔ (b = true ∧ mkErr words (framesOf ps) = 0 ∧ mkS words (framesOf ps) = size ∧ mkP words (framesOf ps) = ps) from ⟨fun h => ⟨HG'.out.2 h.1, h.2⟩, fun h => ⟨HG'.out.1 h.1, h.2⟩⟩)
          have HMW := hidI (show mkErr words (framesOf ps) = 0 → mkW words (framesOf ps) = words from fun h => if_pos h)
          clear hm hmo hb3 hb23 x0 x1 x2 HB HO HG HG' HFL HINTS HXR
          have x0 : w3.cell? ⟨bp, 0, none⟩ = some (.int .i64 words) := cell_of_block hx3 rfl
          have x1 : w3.cell? ⟨bp, 1, none⟩ = some (.slice tao ps.length tcap) := cell_of_block hx3 rfl
          have x2 : w3.cell? ⟨bp, 2, none⟩ = some (.int .i64 size) := cell_of_block hx3 rfl
          clear hx3
          obtain ⟨me, hme⟩ : ∃ x, x = mkErr words (framesOf ps) := ⟨_, rfl⟩
          obtain ⟨ms, hms⟩ : ∃ x, x = mkS words (framesOf ps) := ⟨_, rfl⟩
          obtain ⟨mw, hmw⟩ : ∃ x, x = mkW words (framesOf ps) := ⟨_, rfl⟩
          obtain ⟨mp, hmp⟩ : ∃ x, x = mkP words (framesOf ps) := ⟨_, rfl⟩
          rw [← hmp] at HMO HML HPN
          rw [← hms] at HPN
          rw [← hme] at HPN HMW
          rw [← hmw] at HMW
          rw [← hme, ← hms, ← hmw, ← hmp]
          clear hme hms hmw hmp
          have x0a := fun o => cell_allocU x0 o
          have x1a := fun o => cell_allocU x1 o
          have x2a := fun o => cell_allocU x2 o
          have HAL := hidI (show ∀ o : Obj, Below w2.heap.size w2 (w3.alloc o) from fun o => HB3.out.alloc HB3.out.size o)
          have hpl9 := HTOT.out.2
          go_upto_region 13 with fail
          go_cut [10] from 66 to 86 (fun v wx => ∃ F, v = .bool F ∧ Hid (F = true ↔ Planned words size ps ∧ 0 ≤ thread ∧ thread < ps.length) ∧ Hid (Below w2.heap.size w2 wx))
          case first =>
            cases b with
            | false =>
              have HF := hidI (show (false = true ↔ Planned words size ps ∧ 0 ≤ thread ∧ thread < ps.length) from ⟨fun h => (by cases h), fun h => (by have := (HPN.out.1 h.1).1; cases this)⟩)
              go_wp2_with fail
              go_meet
              exact ⟨false, rfl, HF, HAL.out _⟩
            | true =>
              by_cases he : me = 0
              · have q0 : (me == 0) = true := by simpa using he
                have HE0 := hidI he
                clear he
                go_wp2_with fail
                have hbq : Below w3.heap.size w3 (w3.alloc (.cells #[.int .i64 mw, .slice mo mp.length mc, .int .i64 ms] 46)) := (Below.refl _ _).alloc (Nat.le_refl _) _
                refine (sameplan_any (Rd.below HP3.out hbq) (Rd.below HMO.out hbq) (by omega) (by have := HML.out; omega) words mw size ms).mono ?_
                rintro e w4 ⟨s, rfl, hse, hb4⟩
                have hb34 := bnext hbq hb4
                have HB4 := hidI (bnext HB3.out hb34)
                have hx4 := blk hb34 HX3.out
                have HSE := hidI (show (s = true ↔ Planned words size ps) from ⟨fun h => HPN.out.2 ⟨trivial, HE0.out, (hse.1 h).2.1.symm, (hse.1 h).2.2.symm⟩, fun h => hse.2 ⟨(HMW.out HE0.out).symm, (HPN.out.1 h).2.2.1.symm, (HPN.out.1 h).2.2.2.symm⟩⟩)
                clear x0 x1 x2 x0a x1a x2a hbq hb34 hse hb4
                have x1 : w4.cell? ⟨bp, 1, none⟩ = some (.slice tao ps.length tcap) := cell_of_block hx4 rfl
                clear hx4
                cases s with
                | false =>
                  have HF := hidI (show (false = true ↔ Planned words size ps ∧ 0 ≤ thread ∧ thread < ps.length) from ⟨fun h => (by cases h), fun h => (by have := HSE.out.2 h.1; cases this)⟩)
                  go_wp2_with fail
                  go_meet
                  exact ⟨false, rfl, HF, HB4⟩
                | true =>
                  by_cases ht0 : thread ≥ 0
                  · have q1 : decide (thread ≥ 0) = true := decide_eq_true ht0
                    have HF := hidI (show (decide (thread < (ps.length : Int)) = true ↔ Planned words size ps ∧ 0 ≤ thread ∧ thread < ps.length) from ⟨fun h => ⟨HSE.out.1 rfl, ht0, by simpa using h⟩, fun h => by simpa using h.2.2⟩)
                    go_wp2_with fail
                    go_meet
                    exact ⟨_, rfl, HF, HB4⟩
                  · have q1 : decide (thread ≥ 0) = false := decide_eq_false ht0
                    have HF := hidI (show (false = true ↔ Planned words size ps ∧ 0 ≤ thread ∧ thread < ps.length) from ⟨fun h => (by cases h), fun h => absurd h.2.1 ht0⟩)
                    go_wp2_with fail
                    go_meet
                    exact ⟨false, rfl, HF, HB4⟩
              · have q0 : (me == 0) = false := by simpa using he
                have HF := hidI (show (false = true ↔ Planned words size ps ∧ 0 ≤ thread ∧ thread < ps.length) from ⟨fun h => (by cases h), fun h => absurd (HPN.out.1 h.1).2.1 he⟩)
                clear he
                go_wp2_with fail
                go_meet
                exact ⟨false, rfl, HF, HAL.out _⟩
          case rest =>
            obtain ⟨F, rfl, HF, HBc⟩ := hcut
            have HBW := hidI (bnext HB2.out HBc.out)
            have hxc := blk HBc.out HX2.out
            have HXC := hidI hxc
            clear x0 x1 x2 x0a x1a x2a HX3 HX2 HPN HMW HMO HML HP3 HAL HB3
            have x0 : wc.cell? ⟨bp, 0, none⟩ = some (.int .i64 words) := cell_of_block hxc rfl
            clear hxc
            cases F with
            | false =>
              obtain ⟨rfl, rfl⟩ := StrA.bad HST.out (fun h => by have := HF.out.2 h.1; cases this)
              go_wp2_with fail
              refine (lives25 _).mono ?_
              rintro e w6 ⟨rfl, hb6⟩
              have HB6 := hidI (bnext HBW.out hb6)
              clear hb6
              go_wp2_with fail
              go_ret
              exact ⟨rfl, HB6.out⟩
            | true =>
              have HRC := hidI (HR.out.below HBW.out)
              go_wp2_with fail
              refine (may_any (ts := [(.slice ra rs.length rc, rs)]) (one_thread HRC.out HTOT.out.1) (show 1 ≤ 9000000000000 by decide) words).mono ?_
              rintro e w5 ⟨m, rfl, hm, hb5⟩
              have hba : Below wc.heap.size wc w5 := bnext ((Below.refl _ _).alloc (Nat.le_refl _) _) hb5
              have HB5 := hidI (bnext HBW.out hba)
              have HR5 := hidI (HRC.out.below hba)
              have hx5 := blk hba HXC.out
              have HX5 := hidI hx5
              have HM := hidI hm
              have HB25 := hidI (bnext HBc.out hba)
              clear hm hb5 hba x0
              have x2 : w5.cell? ⟨bp, 2, none⟩ = some (.int .i64 size) := cell_of_block hx5 rfl
              clear hx5
              cases m with
              | false =>
                obtain ⟨rfl, rfl⟩ := StrA.bad HST.out (fun h => by have := HM.out.2 (fun t ht => by rw [List.mem_singleton.1 ht]; exact h.2); cases this)
                go_wp2_with fail
                refine (lives25 _).mono ?_
                rintro e w6 ⟨rfl, hb6⟩
                have HB6 := hidI (bnext HB5.out hb6)
                clear hb6
                go_wp2_with fail
                go_ret
                exact ⟨rfl, HB6.out⟩
              | true =>
                have hgood : GoodS words size ps thread rs := ⟨HF.out.1 trivial, HM.out.1 (by first | rfl | trivial) _ (List.mem_singleton.2 rfl)⟩
                have HGD := hidI hgood
                clear hgood
                rcases HST.out with ⟨-, -, h⟩ | ⟨rfl, rfl, -, hnf⟩ | ⟨rfl, -, l, rfl, hl, hlok, hll⟩
                · exact absurd HGD.out h
                · have HNF := hidI hnf
                  clear hnf x2
                  go_wp2_with fail
                  refine (few_any (ts := [(.slice ra rs.length rc, rs)]) (one_thread HR5.out HTOT.out.1) (show 1 ≤ 9000000000000 by decide) 0).mono ?_
                  rintro e w6 ⟨m, rfl, hm, hb6⟩
                  have HB6 := hidI (bnext HB5.out (bnext ((Below.refl _ _).alloc (Nat.le_refl _) _) hb6))
                  obtain rfl : m = false := by
                    cases m with
                    | false => rfl
                    | true =>
                      have h9 := (hm rfl).1 _ (List.mem_singleton.2 rfl)
                      exact absurd ⟨h9.2, h9.1⟩ HNF.out
                  clear hm hb6
                  go_wp2_with fail
                  refine (lives25 _).mono ?_
                  rintro e w7 ⟨rfl, hb7⟩
                  have HB7 := hidI (bnext HB6.out hb7)
                  clear hb7
                  go_wp2_with fail
                  go_ret
                  exact ⟨rfl, HB7.out⟩
                · have HL := hidI hl
                  have HLOK := hidI hlok
                  have HLL := hidI hll
                  clear hl hlok hll
                  have hll2 := HLL.out
                  go_wp2_with fail
                  have hba : Below w5.heap.size w5 (w5.alloc (.cells #[.slice lo l.length lc] 57)) := (Below.refl _ _).alloc (Nat.le_refl _) _
                  have hcode : CodeAt (w5.alloc (.cells #[.slice lo l.length lc] 57)) (.slice (some ⟨w5.heap.size, 0, none⟩) 1 1) [(.slice lo l.length lc, l)] := ⟨bn_lit (l := [((.slice lo l.length lc : Value), l)]) encC_len (block_new w5 _), fun p hp => by
                    rw [List.mem_singleton.1 hp]
                    exact Rd.below HL.out (bnext HB25.out hba), fun p hp o ho => by
                    rw [List.mem_singleton.1 hp] at ho
                    exact (HLOK.out o ho).2⟩
                  have hsz := HGD.out.1.1.size
                  have hchk : checkM size [((.slice lo l.length lc : Value), l)] [] = 0 := by
                    have hc : countS [((.slice lo l.length lc : Value), l)] = min l.length 262145 := by simp [countS]
                    have ha : ([((.slice lo l.length lc : Value), l)].all fun p => p.2.all checkS) = true := by
                      rw [List.all_eq_true]
                      intro p hp
                      rw [List.mem_singleton.1 hp, List.all_eq_true]
                      exact fun o ho => (HLOK.out o ho).1
                    unfold checkM
                    rw [if_neg (by rw [hc]; simp only [List.length_cons, List.length_nil]; omega), if_neg (by omega), if_neg (by rw [ha]; simp), if_neg (by simp [cellsOk])]
                  refine (run_yes (l := [((.slice lo l.length lc : Value), l)]) (cs := []) (sc := []) hcode (Rd.nil _ 2) size (show 1 ≤ 6000000000000 by decide) (by simp) hchk (Rd.nil _ 3) (by simp) (by simp) (by rfl)).mono ?_
                  rintro e w6 ⟨ga, ls, ve, vec, rfl, hrow, hse, -, hms, hev, -, hb6⟩
                  obtain ⟨s, rfl⟩ : ∃ s, ls = [s] := by
                    have h9 := congrArg List.length hms
                    simp [actsS, doActs, newM] at h9
                    match ls, h9 with
                    | [s], _ => exact ⟨s, rfl⟩
                  have HB6 := hidI (bnext HB5.out (bnext hba hb6))
                  obtain ⟨st, hst⟩ : ∃ z, z = (doActs (newM size (([((.slice lo l.length lc : Value), l)] : List (Value × List OpD)).map (·.2)) [], 0) (actsS [])).2 := ⟨_, rfl⟩
                  obtain ⟨ne, hne⟩ : ∃ z, z = (doActs (newM size (([((.slice lo l.length lc : Value), l)] : List (Value × List OpD)).map (·.2)) [], 0) (actsS [])).1.evs.length := ⟨_, rfl⟩
                  rw [← hst, ← hne]
                  clear hst hne hrow hse hms hev hb6 hcode hchk hba hsz x2
                  go_wp2_with fail
                  refine (lives25 _).mono ?_
                  rintro e w7 ⟨rfl, hb7⟩
                  have HB7 := hidI (bnext HB6.out (bnext ((Below.refl _ _).alloc (Nat.le_refl _) _) hb7))
                  clear hb7
                  go_wp2_with fail
                  go_ret
                  exact ⟨rfl, HB7.out⟩
end

section
open Go.ChangeShapes Go.WideShapes Go.ChangeAt Go.RowKit

theorem bn_four {α : Type} (l : List α) (h : l.length = 4) : ∃ a b c d, l = [a, b, c, d] := by
  match l, h with
  | [a, b, c, d], _ => exact ⟨a, b, c, d, rfl⟩
theorem txD_elem {H : Type} {enc : TypeId × Value → H} {w : World} {held : Bool} (fuel : Nat) (cs : List Value) (x : DataW H × List MemPlace) (h : DataW.trod enc Tryz.prog w 0 (fun _ => true) held fuel 96 cs = some x) : ∃ a : Tx, cs = encTxD a ∧ TxWf a := by
  obtain ⟨y0, y1, y2, y3, n, hx, hl, h0, h1, h2, h3⟩ := Go.Joins.trod_struct4 Tryz.underlying96 h
  obtain ⟨a, ha, -, -⟩ := DataW.trod_int Tryz.underlying3 h0
  obtain ⟨k, hk, -, hkw⟩ := DataW.trod_int Tryz.underlying94 h1
  obtain ⟨b, hb, -, hbw⟩ := DataW.trod_int Tryz.underlying3 h2
  obtain ⟨c, hc, -, hcw⟩ := DataW.trod_int Tryz.underlying2 h3
  rw [show Tryz.prog.cellsOf 96 = 4 from by kernel_rfl] at hl
  rw [show Tryz.prog.cellsOf 3 = 1 from by kernel_rfl] at ha hb
  rw [show Tryz.prog.cellsOf 94 = 1 from by kernel_rfl] at hk
  rw [show Tryz.prog.cellsOf 2 = 1 from by kernel_rfl] at hc
  obtain ⟨c0, c1, c2, c3, rfl⟩ := bn_four cs hl
  simp at ha hk hb hc
  exact ⟨⟨a, k, b, c⟩, by simp [encTxD, ha, hk, hb, hc], wf_i64 hbw, wf_i64 hcw⟩
/-- a row that came in, as an element -/
theorem txRow_elem {H : Type} {enc : TypeId × Value → H} {w : World} {held : Bool} (fuel : Nat) (cs : List Value) (x : DataW H × List MemPlace) (h : DataW.trod enc Tryz.prog w 0 (fun _ => true) held fuel 79 cs = some x) :
    ∃ a : Value × List Tx, cs = encR a ∧ (RdT encTxD w 4 a.1 a.2 ∧ (∀ o ∈ a.2, TxWf o) ∧ a.2.length ≤ 9223372036854775807) := by
  rcases Go.Deep.open_slice Tryz.underlying79 h with ⟨rfl, _⟩ | ⟨a, len, cap, m, n, D, Pl, rfl, _⟩
  · exact ⟨(.slice none 0 0, []), rfl, Rd.nil w 4, by simp, by simp⟩
  · obtain ⟨l, rfl, hr, hm, hok, -⟩ := slice_open (d := x.1) (p := x.2) (sz := 4) (e := 96) encTxD_len (by decide) Tryz.underlying79 (by kernel_rfl) txD_elem ⟨fuel, by simpa [Value.cells] using h⟩
    exact ⟨(.slice (some a) l.length cap, l), rfl, hr, hok, hm⟩
set_option maxRecDepth 100000 in
theorem place_elem {H : Type} {enc : TypeId × Value → H} {w : World} {held : Bool} (fuel : Nat) (cs : List Value) (x : DataW H × List MemPlace) (h : DataW.trod enc Tryz.prog w 0 (fun _ => true) held fuel 87 cs = some x) : ∃ a : PlaceD, cs = encP a ∧ True := by
  obtain ⟨xs, n, _, rfl, hl, hlen, hf⟩ := DataW.trod_struct Tryz.underlying87 h
  rw [show Tryz.prog.cellsOf 87 = 5 from by kernel_rfl] at hl
  match xs, hlen with
  | [y0, y1, y2, y3, y4], _ =>
  have e4 : Tryz.prog.cellsOf 3 = 1 := by kernel_rfl
  obtain ⟨v0, h0, -, w0⟩ := DataW.trod_int Tryz.underlying3 (hf 0 _ rfl)
  obtain ⟨v1, h1, -, w1⟩ := DataW.trod_int Tryz.underlying3 (hf 1 _ rfl)
  obtain ⟨v2, h2, -, w2⟩ := DataW.trod_int Tryz.underlying3 (hf 2 _ rfl)
  obtain ⟨v3, h3, -, w3⟩ := DataW.trod_int Tryz.underlying3 (hf 3 _ rfl)
  obtain ⟨v4, h4, -, w4⟩ := DataW.trod_int Tryz.underlying3 (hf 4 _ rfl)
  match cs, hl with
  | [c0, c1, c2, c3, c4], _ =>
    simp [e4] at h0 h1 h2 h3 h4
    exact ⟨⟨v0, v1, v2, v3, v4⟩, by simp [encP, h0, h1, h2, h3, h4], trivial⟩
set_option maxRecDepth 100000 in
theorem plan_open {H : Type} {enc : TypeId × Value → H} {w : World} {held : Bool} {r : Reach} {b0 : Nat} {v : Value} {d : DataW H} {p : List MemPlace} (hv : Value.okWide Tryz.prog w r b0 46 v)
    (h : DataW.Trod enc Tryz.prog w 0 (fun _ => true) held 46 v d p) :
    ∃ (ta : Option Addr) (tc : Nat) (ps : List PlaceD) (words size : Int), v = .agg #[.int .i64 words, .slice ta ps.length tc, .int .i64 size] ∧ RdT encP w 5 (.slice ta ps.length tc) ps ∧ ps.length ≤ 9223372036854775807 := by
  obtain ⟨c0, c1, c2, y0, y1, y2, m0, rfl, e0, e0p, hy0, hy1, hy2⟩ := Go.Joins.open_agg3 Tryz.underlying46 (by kernel_rfl) (by kernel_rfl) hv h
  obtain ⟨words, hw0, -, -⟩ := DataW.trod_int Tryz.underlying3 hy0
  obtain ⟨size, hs0, -, -⟩ := DataW.trod_int Tryz.underlying3 hy2
  simp only [List.cons.injEq, and_true] at hw0 hs0
  subst hw0 hs0
  rcases Go.Deep.open_slice Tryz.underlying44 hy1 with ⟨e, _⟩ | ⟨a, len, cap, m, n, D, Pl, e, _⟩
  · simp only [List.cons.injEq, and_true] at e
    subst e
    exact ⟨none, 0, [], words, size, rfl, Rd.nil w 5, by simp⟩
  · simp only [List.cons.injEq, and_true] at e
    subst e
    obtain ⟨l, rfl, hr, hm, hok, -⟩ := slice_open (d := y1.1) (p := y1.2) (sz := 5) (e := 87) encP_len (by decide) Tryz.underlying44 (by kernel_rfl) place_elem ⟨m0, by simpa [Value.cells] using hy1⟩
    exact ⟨some a, cap, l, words, size, rfl, hr, hm⟩
theorem txRows_open {H : Type} {enc : TypeId × Value → H} {w : World} {held : Bool} {ao : Option Addr} {len cap : Nat} {d : DataW H} {p : List MemPlace} (h : DataW.Trod enc Tryz.prog w 0 (fun _ => true) held 62 (.slice ao len cap) d p) :
    ∃ rs : List (Value × List Tx), len = rs.length ∧ RowsAt w (.slice ao rs.length cap) rs ∧ rs.length ≤ 9223372036854775807 ∧ (∀ q ∈ rs, q.2.length ≤ 9223372036854775807) ∧ ∀ q ∈ rs, ∀ o ∈ q.2, TxWf o := by
  obtain ⟨l, rfl, hr, hm, hok, -⟩ := slice_open (d := d) (p := p) (sz := 1) (e := 79) (fun _ => rfl) (by decide) Tryz.underlying62 (by kernel_rfl) txRow_elem h
  exact ⟨l, rfl, ⟨hr, fun q hq => (hok q hq).1⟩, hm, fun q hq => (hok q hq).2.2, fun q hq => (hok q hq).2.1⟩
end

end Go.Proofs.YtopdcjimpdalpaaGreat

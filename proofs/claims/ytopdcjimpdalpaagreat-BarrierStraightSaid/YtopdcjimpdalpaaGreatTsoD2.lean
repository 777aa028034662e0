/- Package tso: named, for stores and for what names no word; waits. (Written by mktsod.py.) -/
import Derived.Test.YtopdcjimpdalpaaGreatTsoD
namespace Go.Proofs.YtopdcjimpdalpaaGreat
open Go.RowKit
set_option linter.unusedVariables false
set_option linter.unusedSimpArgs false

variable {w w' : World} {base b : Nat} {own own' : Nat → Nat} {mm : MM} {xs : List TX} {mv tv ev : Value}

set_option maxRecDepth 100000 in
set_option maxHeartbeats 2000000 in
theorem named_store {tb cap : Nat} (h : MAt w base b own mm xs mv (.slice (some ⟨tb, 0, none⟩) xs.length cap) ev) {n : Nat} {x : TX} (hx : xs[n]? = some x) (hl : mm.mem.length ≤ 262144) (o : OpD) (ho : OpOk o) (hk : o.kind = 5 ∨ o.kind = 8 ∨ o.kind = 9) :
    Calls Tryz.prog 103 #[.pointer (some ⟨b, 0, none⟩), .pointer (some ⟨tb, n * 13, none⟩), .agg (encOp o).toArray] w (NamedPost mm x.th o w) := by
  have hw := hidI (show x.th.word o = some (w64 (x.th.r o.a + o.n)) from by unfold MT.word; rw [if_neg (by omega), if_pos hk])
  obtain ⟨kind, cal, ra, rb, rc, num⟩ := o
  obtain ⟨ra', rfl⟩ : ∃ q : Nat, ra = q := ⟨ra.toNat, by have := ho.ra; simp only at this; omega⟩
  have hr8 : ra' < 8 := by have := ho.ra; simp only at this; omega
  obtain ⟨w0, hw0⟩ : ∃ w0, w0 = w.alloc (.cells #[.int .u8 kind, .int .u8 cal, .int .u8 (ra' : Int), .int .u8 rb, .int .u8 rc, .int .i64 num] 107) := ⟨_, rfl⟩
  have hb0 : Below w.heap.size w w0 := by rw [hw0]; exact (Below.refl _ _).alloc (Nat.le_refl _) _
  have h0 := h.below hb0
  have c1 : w0.cell? ⟨tb, n * 13 + 1 + ra', none⟩ = some (.int .i64 (x.th.reg ra')) := by rw [Nat.add_assoc]; exact h0.cell hx _ _ (encX_reg x ra' hr8)
  have hbox := block_new w (.cells #[.int .u8 kind, .int .u8 cal, .int .u8 (ra' : Int), .int .u8 rb, .int .u8 rc, .int .i64 num] 107)
  rw [← hw0] at hbox
  have d0 : w0.cell? ⟨w.heap.size, 0, none⟩ = some (.int .u8 kind) := cell_of_block hbox rfl
  have d2 : w0.cell? ⟨w.heap.size, 2, none⟩ = some (.int .u8 (ra' : Int)) := cell_of_block hbox rfl
  have d5 : w0.cell? ⟨w.heap.size, 5, none⟩ = some (.int .i64 num) := cell_of_block hbox rfl
  have H0 := hidI h0
  have HL := hidI hl
  have HB := hidI hb0
  simp only at hk
  obtain ⟨A, hA⟩ : ∃ A, A = w64 (x.th.reg ra' + num) := ⟨_, rfl⟩
  have eA : IntKind.i64.wrap (x.th.reg ra' + num) = A := by rw [hA]; exact w64_wrap _
  have hw := hidI (show x.th.word ⟨kind, cal, ra', rb, rc, num⟩ = some A from by rw [hA]; exact hw.out)
  clear hA
  clear h h0 hx hl ho hbox hb0
  unfold encOp
  cases hh : mm.has A with
  | true =>
    have HH := hidI (has_iff.1 hh)
    rcases hk with rfl | rfl | rfl
    all_goals (
      go_enter Tryz.func103, Tryz.ntmps103
      go_wp2_with fail
      simp only [← hw0]
      clear hw0
      go_region_with (go_at_call 141; refine (there_in H0.out.drew HH.out HL.out).mono ?_; rintro e w1 ⟨rfl, rfl⟩)
      all_goals go_wp2_with fail
      all_goals go_ret
      all_goals exact ⟨below_drewN HB.out 1, .inr ⟨_, hw.out, .inl ⟨hh, rfl⟩⟩⟩)
  | false =>
    have HH := hidI (show ¬ (0 ≤ A ∧ A < mm.mem.length) from fun e => by rw [has_iff.2 e] at hh; cases hh)
    rcases hk with rfl | rfl | rfl
    all_goals (
      go_enter Tryz.func103, Tryz.ntmps103
      go_wp2_with fail
      simp only [← hw0]
      clear hw0
      go_region_with (go_at_call 141; refine (there_out H0.out.drew HH.out HL.out).mono ?_; rintro e w1 ⟨rfl, rfl⟩; refine over_way ?_ ⟨rfl, below_drewN HB.out 1, .inr ⟨_, hw.out, .inr ⟨hh, rfl⟩⟩⟩)
      all_goals trivial)

set_option maxHeartbeats 1000000 in
theorem named_none {tb cap : Nat} (h : MAt w base b own mm xs mv (.slice (some ⟨tb, 0, none⟩) xs.length cap) ev) {n : Nat} {x : TX} (o : OpD) (hk : o.kind ≠ 4 ∧ o.kind ≠ 15 ∧ o.kind ≠ 5 ∧ o.kind ≠ 8 ∧ o.kind ≠ 9) :
    Calls Tryz.prog 103 #[.pointer (some ⟨b, 0, none⟩), .pointer (some ⟨tb, n * 13, none⟩), .agg (encOp o).toArray] w (NamedPost mm x.th o w) := by
  have hw := hidI (show x.th.word o = none from by unfold MT.word; rw [if_neg (by omega), if_neg (by omega)])
  obtain ⟨kind, cal, ra, rb, rc, num⟩ := o
  obtain ⟨h1, h2, h3, h4, h5⟩ := hk
  simp only at h1 h2 h3 h4 h5
  have e1 : (kind == 4) = false := by rw [beq_eq_false_iff_ne]; exact h1
  have e2 : (kind == 15) = false := by rw [beq_eq_false_iff_ne]; exact h2
  have e3 : (kind == 5) = false := by rw [beq_eq_false_iff_ne]; exact h3
  have e4 : (kind == 8) = false := by rw [beq_eq_false_iff_ne]; exact h4
  have e5 : (kind == 9) = false := by rw [beq_eq_false_iff_ne]; exact h5
  clear h
  unfold encOp
  go_enter Tryz.func103, Tryz.ntmps103
  go_wp2_with fail
  go_ret
  exact ⟨(Below.refl _ _).alloc (Nat.le_refl _) _, .inl ⟨hw.out, rfl⟩⟩

theorem named_any {tb cap : Nat} (h : MAt w base b own mm xs mv (.slice (some ⟨tb, 0, none⟩) xs.length cap) ev) {n : Nat} {x : TX} (hx : xs[n]? = some x) (hl : mm.mem.length ≤ 262144) (o : OpD) (ho : OpOk o) :
    Calls Tryz.prog 103 #[.pointer (some ⟨b, 0, none⟩), .pointer (some ⟨tb, n * 13, none⟩), .agg (encOp o).toArray] w (NamedPost mm x.th o w) := by
  by_cases h1 : o.kind = 4 ∨ o.kind = 15
  · exact named_load h hx hl o ho h1
  · by_cases h2 : o.kind = 5 ∨ o.kind = 8 ∨ o.kind = 9
    · exact named_store h hx hl o ho h2
    · exact named_none h o (by omega)

set_option maxHeartbeats 1000000 in
theorem waits_any {tb cap : Nat} (h : MAt w base b own mm xs mv (.slice (some ⟨tb, 0, none⟩) xs.length cap) ev) {n : Nat} {x : TX} (hx : xs[n]? = some x) (o : OpD) (ho : OpOk o) :
    Calls Tryz.prog 104 #[.pointer (some ⟨tb, n * 13, none⟩), .agg (encOp o).toArray] w fun r w' => r = .returned (.bool (x.th.waits o)) ∧ Below w.heap.size w w' := by
  obtain ⟨kind, cal, ra, rb, rc, num⟩ := o
  have h0 := h.below ((Below.refl _ _).alloc (Nat.le_refl _) (.cells #[.int .u8 kind, .int .u8 cal, .int .u8 ra, .int .u8 rb, .int .u8 rc, .int .i64 num] 107))
  have c1 := h0.cell hx 10 _ rfl
  have hbox := block_new w (.cells #[.int .u8 kind, .int .u8 cal, .int .u8 ra, .int .u8 rb, .int .u8 rc, .int .i64 num] 107)
  have d0 := cell_of_block (o := 0) hbox rfl
  have HB := hidI ((Below.refl _ _).alloc (Nat.le_refl _) (.cells #[.int .u8 kind, .int .u8 cal, .int .u8 ra, .int .u8 rb, .int .u8 rc, .int .i64 num] 107) : Below w.heap.size w _)
  obtain ⟨c, f, hr⟩ := (h0.th n x hx).ring
  have HR := hidI hr
  have hk := ho.kind
  simp only at hk
  clear h h0 hx hbox hr ho
  unfold encOp
  by_cases h5 : kind = 5
  · subst h5
    have e : x.th.waits ⟨5, cal, ra, rb, rc, num⟩ = decide (64 ≤ x.th.wait.length) := rfl
    rw [e]
    go_enter Tryz.func104, Tryz.ntmps104
    go_wp2_with fail
    refine (len_yes HR.out).mono ?_
    rintro r w1 ⟨rfl, rfl⟩
    go_wp2_with fail
    go_ret
    exact ⟨by simp; omega, HB.out⟩
  · by_cases h8 : kind = 8 ∨ kind = 9 ∨ kind = 10
    · have e : x.th.waits ⟨kind, cal, ra, rb, rc, num⟩ = decide (0 < x.th.wait.length) := by unfold MT.waits; rw [if_neg h5, if_pos h8]
      rw [e]
      clear e
      rcases h8 with rfl | rfl | rfl
      all_goals (
        go_enter Tryz.func104, Tryz.ntmps104
        go_wp2_with fail
        refine (len_yes HR.out).mono ?_
        rintro r w1 ⟨rfl, rfl⟩
        go_wp2_with fail
        go_ret
        exact ⟨by simp, HB.out⟩)
    · have e : x.th.waits ⟨kind, cal, ra, rb, rc, num⟩ = false := by unfold MT.waits; rw [if_neg h5, if_neg h8]
      rw [e]
      have e3 : (kind == 5) = false := by rw [beq_eq_false_iff_ne]; exact h5
      have e4 : (kind == 8) = false := by rw [beq_eq_false_iff_ne]; omega
      have e5 : (kind == 9) = false := by rw [beq_eq_false_iff_ne]; omega
      have e6 : (kind == 10) = false := by rw [beq_eq_false_iff_ne]; omega
      clear h5 h8 hk
      go_enter Tryz.func104, Tryz.ntmps104
      go_wp2_with fail
      go_ret
      exact ⟨rfl, HB.out⟩
end Go.Proofs.YtopdcjimpdalpaaGreat

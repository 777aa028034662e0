/- Package tso: instructions that may be; named, waits. -/
import Derived.Test.YtopdcjimpdalpaaGreatTsoC
namespace Go.Proofs.YtopdcjimpdalpaaGreat
open Go.RowKit
set_option linter.unusedVariables false
set_option linter.unusedSimpArgs false

/-- what Check leaves of an instruction -/
structure OpOk (o : OpD) : Prop where
  kind : 1 ≤ o.kind ∧ o.kind ≤ 15
  ra : 0 ≤ o.a ∧ o.a < 8
  rb : 0 ≤ o.b ∧ o.b < 8
  rc : 0 ≤ o.c ∧ o.c < 8
  jump : o.kind = 6 ∨ o.kind = 7 → 0 ≤ o.n ∧ o.n ≤ 262144
  note : o.kind = 12 → 1 ≤ o.n ∧ o.n ≤ 8
  trap : o.kind = 13 → 2 ≤ o.n ∧ o.n ≤ 8

theorem okReg_lt {regs i : Nat} {r : Int} (h : okReg regs i r = true) : r < 8 := by
  unfold okReg at h
  split at h
  · simpa using h
  · have : r = 0 := by simpa using h
    omega
theorem OpOk.of {o : OpD} (h : checkS o = true) (hw : wfOp o) : OpOk o := by
  unfold checkS at h
  cases hf : formS o.kind with
  | none => rw [hf] at h; cases h
  | some f =>
    rw [hf] at h
    simp only [Bool.and_eq_true] at h
    obtain ⟨⟨⟨⟨⟨h1, h2⟩, h3⟩, h4⟩, h5⟩, h6⟩ := h
    have hk := kinds (k := o.kind) (by rw [hf]; simp)
    obtain ⟨-, -, wa, wb, wc, -⟩ := hw
    refine ⟨by omega, ⟨wa.1, okReg_lt h3⟩, ⟨wb.1, okReg_lt h4⟩, ⟨wc.1, okReg_lt h5⟩, fun hj => ?_, fun hj => ?_, fun hj => ?_⟩
    · rcases hj with e | e
      · rw [e] at hf; simp [formS] at hf; subst hf; simpa [okNum] using h6
      · rw [e] at hf; simp [formS] at hf; subst hf; simpa [okNum] using h6
    · rw [hj] at hf; simp [formS] at hf; subst hf; simpa [okNum] using h6
    · rw [hj] at hf; simp [formS] at hf; subst hf; simpa [okNum] using h6

variable {w w' : World} {base b : Nat} {own own' : Nat → Nat} {mm : MM} {xs : List TX} {mv tv ev : Value}

/-- a way that is over already, in a region: what the region's tactic is left with is nothing -/
theorem over_way {G : Prop} (_ : wpAny Tryz.prog .text #[] (fun _ _ _ => True) 0 #[] ⟨#[], []⟩ (default : World)) (h : G) : G := h

/-- named's post -/
def NamedPost (mm : MM) (t : MT) (o : OpD) (w : World) (r : Ending) (w' : World) : Prop :=
  Below w.heap.size w w' ∧ (t.word o = none ∧ r = .returned (.int .i64 0) ∨ ∃ a, t.word o = some a ∧ (mm.has a = true ∧ r = .returned (.int .i64 a) ∨ mm.has a = false ∧ r = .panicked [tfault 8]))

theorem has_iff {mm : MM} {a : Int} : mm.has a = true ↔ 0 ≤ a ∧ a < mm.mem.length := by unfold MM.has; simp
theorem there_any (h : MAt w base b own mm xs mv tv ev) (a : Int) (hl : mm.mem.length ≤ 262144) :
    Calls Tryz.prog 141 #[.pointer (some ⟨b, 0, none⟩), .int .i64 a] w fun r w' => (mm.has a = true ∧ r = .returned (.int .i64 a) ∨ mm.has a = false ∧ r = .panicked [tfault 8]) ∧ w' = w := by
  by_cases ha : 0 ≤ a ∧ a < mm.mem.length
  · refine (there_in h ha hl).mono ?_
    rintro r w' ⟨rfl, rfl⟩
    exact ⟨.inl ⟨has_iff.2 ha, rfl⟩, rfl⟩
  · refine (there_out h ha hl).mono ?_
    rintro r w' ⟨rfl, rfl⟩
    exact ⟨.inr ⟨by rw [← Bool.not_eq_true, has_iff]; exact ha, rfl⟩, rfl⟩

set_option maxRecDepth 100000 in
set_option maxHeartbeats 2000000 in
theorem named_load {tb cap : Nat} (h : MAt w base b own mm xs mv (.slice (some ⟨tb, 0, none⟩) xs.length cap) ev) {n : Nat} {x : TX} (hx : xs[n]? = some x) (hl : mm.mem.length ≤ 262144) (o : OpD) (ho : OpOk o) (hk : o.kind = 4 ∨ o.kind = 15) :
    Calls Tryz.prog 103 #[.pointer (some ⟨b, 0, none⟩), .pointer (some ⟨tb, n * 13, none⟩), .agg (encOp o).toArray] w (NamedPost mm x.th o w) := by
  have hw := hidI (show x.th.word o = some (w64 (x.th.r o.b + o.n)) from by unfold MT.word; rw [if_pos hk])
  obtain ⟨kind, cal, ra, rb, rc, num⟩ := o
  obtain ⟨rb', rfl⟩ : ∃ q : Nat, rb = q := ⟨rb.toNat, by have := ho.rb; simp only at this; omega⟩
  have hr8 : rb' < 8 := by have := ho.rb; simp only at this; omega
  obtain ⟨w0, hw0⟩ : ∃ w0, w0 = w.alloc (.cells #[.int .u8 kind, .int .u8 cal, .int .u8 ra, .int .u8 (rb' : Int), .int .u8 rc, .int .i64 num] 107) := ⟨_, rfl⟩
  have hb0 : Below w.heap.size w w0 := by rw [hw0]; exact (Below.refl _ _).alloc (Nat.le_refl _) _
  have h0 := h.below hb0
  have c1 : w0.cell? ⟨tb, n * 13 + 1 + rb', none⟩ = some (.int .i64 (x.th.reg rb')) := by rw [Nat.add_assoc]; exact h0.cell hx _ _ (encX_reg x rb' hr8)
  have hbox := block_new w (.cells #[.int .u8 kind, .int .u8 cal, .int .u8 ra, .int .u8 (rb' : Int), .int .u8 rc, .int .i64 num] 107)
  rw [← hw0] at hbox
  have d0 : w0.cell? ⟨w.heap.size, 0, none⟩ = some (.int .u8 kind) := cell_of_block hbox rfl
  have d3 : w0.cell? ⟨w.heap.size, 3, none⟩ = some (.int .u8 (rb' : Int)) := cell_of_block hbox rfl
  have d5 : w0.cell? ⟨w.heap.size, 5, none⟩ = some (.int .i64 num) := cell_of_block hbox rfl
  have H0 := hidI h0
  have HL := hidI hl
  have HB := hidI hb0
  simp only at hk
  obtain ⟨A, hA⟩ : ∃ A, A = w64 (x.th.reg rb' + num) := ⟨_, rfl⟩
  have eA : IntKind.i64.wrap (x.th.reg rb' + num) = A := by rw [hA]; exact w64_wrap _
  have hw := hidI (show x.th.word ⟨kind, cal, ra, rb', rc, num⟩ = some A from by rw [hA]; exact hw.out)
  clear hA
  clear h h0 hx hl ho hbox hb0
  unfold encOp
  cases hh : mm.has A with
  | true =>
    have HH := hidI (has_iff.1 hh)
    rcases hk with rfl | rfl
    all_goals (
      go_enter Tryz.func103, Tryz.ntmps103
      go_wp2_with fail
      simp only [← hw0]
      clear hw0
      go_region_with (go_at_call 141; refine (there_in H0.out.drew HH.out HL.out).mono ?_; rintro e w1 ⟨rfl, rfl⟩)
      all_goals go_wp2_with fail
      all_goals go_ret
      all_goals exact ⟨below_drewN HB.out 1, .inr ⟨_, hw.out, .inl ⟨hh, rfl⟩⟩⟩)
  | false =>
    have HH := hidI (show ¬ (0 ≤ A ∧ A < mm.mem.length) from fun e => by rw [has_iff.2 e] at hh; cases hh)
    rcases hk with rfl | rfl
    all_goals (
      go_enter Tryz.func103, Tryz.ntmps103
      go_wp2_with fail
      simp only [← hw0]
      clear hw0
      go_region_with (go_at_call 141; refine (there_out H0.out.drew HH.out HL.out).mono ?_; rintro e w1 ⟨rfl, rfl⟩; refine over_way ?_ ⟨rfl, below_drewN HB.out 1, .inr ⟨_, hw.out, .inr ⟨hh, rfl⟩⟩⟩)
      all_goals trivial)
end Go.Proofs.YtopdcjimpdalpaaGreat

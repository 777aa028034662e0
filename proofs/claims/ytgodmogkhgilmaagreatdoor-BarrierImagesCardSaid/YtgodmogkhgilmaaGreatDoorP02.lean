/- Part of the proof: TsoI -/
import Derived.Test.YtgodmogkhgilmaaGreatDoorP01
namespace Go.Proofs.YtgodmogkhgilmaaGreatDoor
open Go.RowKit
set_option linter.unusedVariables false
set_option linter.unusedSimpArgs false
set_option maxHeartbeats 4000000
structure Fm where
  cal : Bool
  regs : Nat
  n : Bool
  least : Int
  most : Int
def fm (c : Bool) (r : Nat) (n : Bool) : Fm := ⟨c, r, n, -9223372036854775808, 9223372036854775807⟩
def formS (k : Int) : Option Fm :=
  if k = 1 then some (fm false 1 true) else if k = 2 then some (fm false 2 false) else if k = 3 then some (fm true 2 false)
  else if k = 4 ∨ k = 5 ∨ k = 9 ∨ k = 15 then some (fm false 2 true) else if k = 6 then some ⟨false, 0, true, 0, 262144⟩ else if k = 7 then some ⟨false, 1, true, 0, 262144⟩
  else if k = 8 then some (fm false 3 true) else if k = 10 ∨ k = 14 then some (fm false 0 false) else if k = 11 then some (fm false 1 false)
  else if k = 12 then some ⟨false, 2, true, 1, 8⟩ else if k = 13 then some ⟨false, 0, true, 2, 8⟩ else none
theorem kinds {k : Int} (h : formS k ≠ none) : k = 1 ∨ k = 2 ∨ k = 3 ∨ k = 4 ∨ k = 5 ∨ k = 6 ∨ k = 7 ∨ k = 8 ∨ k = 9 ∨ k = 10 ∨ k = 11 ∨ k = 12 ∨ k = 13 ∨ k = 14 ∨ k = 15 := by
  by_cases h' : 1 ≤ k ∧ k ≤ 15
  · omega
  · exfalso
    apply h
    unfold formS
    repeat rw [if_neg (by omega)]
def encFm (f : Fm) : List Value := [.bool f.cal, .int .i64 (f.regs : Int), .bool f.n, .int .i64 f.least, .int .i64 f.most]
def encFd (f : Fm) : List Value := [.bool f.cal, .int .i64 (f.regs : Int), .bool f.n]
def formV : Option Fm → Value
  | some f => .tuple #[.agg (encFm f).toArray, .bool true]
  | none => .tuple #[.agg #[.bool false, .int .i64 0, .bool false, .int .i64 0, .int .i64 0], .bool false]
def fieldsV : Option Fm → Value
  | some f => .tuple #[.agg (encFd f).toArray, .bool true]
  | none => .tuple #[.agg #[.bool false, .int .i64 0, .bool false], .bool false]
def numS (k n : Int) : Bool :=
  if k = 6 ∨ k = 7 then decide (0 ≤ n ∧ n ≤ 262144) else if k = 12 then decide (1 ≤ n ∧ n ≤ 8) else if k = 13 then decide (2 ≤ n ∧ n ≤ 8) else true
theorem formOf_no (w : World) (k : Int) (h : ¬ (1 ≤ k ∧ k ≤ 15)) : Calls Tryz.prog 266 #[.int .u8 k] w fun e w' => e = .returned (.tuple #[.agg #[.bool false, .int .i64 0, .bool false, .int .i64 0, .int .i64 0], .bool false]) ∧ Below w.heap.size w w' := by
  have k1 : (k == 1) = false := by simp; omega
  have k2 : (k == 2) = false := by simp; omega
  have k3 : (k == 3) = false := by simp; omega
  have k4 : (k == 4) = false := by simp; omega
  have k5 : (k == 5) = false := by simp; omega
  have k6 : (k == 6) = false := by simp; omega
  have k7 : (k == 7) = false := by simp; omega
  have k8 : (k == 8) = false := by simp; omega
  have k9 : (k == 9) = false := by simp; omega
  have k10 : (k == 10) = false := by simp; omega
  have k11 : (k == 11) = false := by simp; omega
  have k12 : (k == 12) = false := by simp; omega
  have k13 : (k == 13) = false := by simp; omega
  have k14 : (k == 14) = false := by simp; omega
  have k15 : (k == 15) = false := by simp; omega
  clear h
  go_enter Tryz.func266, Tryz.ntmps266
  go_wp2_with fail
  refine bodyPost_ret (v := .tuple #[.agg #[.bool false, .int .i64 0, .bool false, .int .i64 0, .int .i64 0], .bool false]) (by simp [results, Tryz.results266, go_sem]) rfl ⟨rfl, ?_⟩
  first | exact Below.refl _ _ | exact (Below.refl _ _).alloc (Nat.le_refl _) _ | exact ((Below.refl _ _).alloc (Nat.le_refl _) _).alloc (by simp) _
theorem formOf_s0 (w : World) {k : Int} (h : k = 1 ∨ k = 2 ∨ k = 3) : Calls Tryz.prog 266 #[.int .u8 k] w fun e w' => e = .returned (formV (formS k)) ∧ Below w.heap.size w w' := by
  rcases h with rfl | rfl | rfl <;> (
    go_enter Tryz.func266, Tryz.ntmps266
    go_wp2_with fail
    refine bodyPost_ret (by simp [results, Tryz.results266, go_sem]; rfl) rfl ⟨by simp [formS, fm, formV, encFm, encFd]; done, ?_⟩
    first | exact Below.refl _ _ | exact (Below.refl _ _).alloc (Nat.le_refl _) _ | exact ((Below.refl _ _).alloc (Nat.le_refl _) _).alloc (by simp) _)
theorem formOf_s1 (w : World) {k : Int} (h : k = 4 ∨ k = 5 ∨ k = 6) : Calls Tryz.prog 266 #[.int .u8 k] w fun e w' => e = .returned (formV (formS k)) ∧ Below w.heap.size w w' := by
  rcases h with rfl | rfl | rfl <;> (
    go_enter Tryz.func266, Tryz.ntmps266
    go_wp2_with fail
    refine bodyPost_ret (by simp [results, Tryz.results266, go_sem]; rfl) rfl ⟨by simp [formS, fm, formV, encFm, encFd]; done, ?_⟩
    first | exact Below.refl _ _ | exact (Below.refl _ _).alloc (Nat.le_refl _) _ | exact ((Below.refl _ _).alloc (Nat.le_refl _) _).alloc (by simp) _)
theorem formOf_s2 (w : World) {k : Int} (h : k = 7 ∨ k = 8 ∨ k = 9) : Calls Tryz.prog 266 #[.int .u8 k] w fun e w' => e = .returned (formV (formS k)) ∧ Below w.heap.size w w' := by
  rcases h with rfl | rfl | rfl <;> (
    go_enter Tryz.func266, Tryz.ntmps266
    go_wp2_with fail
    refine bodyPost_ret (by simp [results, Tryz.results266, go_sem]; rfl) rfl ⟨by simp [formS, fm, formV, encFm, encFd]; done, ?_⟩
    first | exact Below.refl _ _ | exact (Below.refl _ _).alloc (Nat.le_refl _) _ | exact ((Below.refl _ _).alloc (Nat.le_refl _) _).alloc (by simp) _)
theorem formOf_s3 (w : World) {k : Int} (h : k = 10 ∨ k = 11 ∨ k = 12) : Calls Tryz.prog 266 #[.int .u8 k] w fun e w' => e = .returned (formV (formS k)) ∧ Below w.heap.size w w' := by
  rcases h with rfl | rfl | rfl <;> (
    go_enter Tryz.func266, Tryz.ntmps266
    go_wp2_with fail
    refine bodyPost_ret (by simp [results, Tryz.results266, go_sem]; rfl) rfl ⟨by simp [formS, fm, formV, encFm, encFd]; done, ?_⟩
    first | exact Below.refl _ _ | exact (Below.refl _ _).alloc (Nat.le_refl _) _ | exact ((Below.refl _ _).alloc (Nat.le_refl _) _).alloc (by simp) _)
theorem formOf_s4 (w : World) {k : Int} (h : k = 13 ∨ k = 14 ∨ k = 15) : Calls Tryz.prog 266 #[.int .u8 k] w fun e w' => e = .returned (formV (formS k)) ∧ Below w.heap.size w w' := by
  rcases h with rfl | rfl | rfl <;> (
    go_enter Tryz.func266, Tryz.ntmps266
    go_wp2_with fail
    refine bodyPost_ret (by simp [results, Tryz.results266, go_sem]; rfl) rfl ⟨by simp [formS, fm, formV, encFm, encFd]; done, ?_⟩
    first | exact Below.refl _ _ | exact (Below.refl _ _).alloc (Nat.le_refl _) _ | exact ((Below.refl _ _).alloc (Nat.le_refl _) _).alloc (by simp) _)
theorem formOf_any (w : World) (k : Int) : Calls Tryz.prog 266 #[.int .u8 k] w fun e w' => e = .returned (formV (formS k)) ∧ Below w.heap.size w w' := by
  by_cases hk : 1 ≤ k ∧ k ≤ 15
  · rcases (by omega : k ≤ 3 ∨ 4 ≤ k ∧ k ≤ 6 ∨ 7 ≤ k ∧ k ≤ 9 ∨ 10 ≤ k ∧ k ≤ 12 ∨ 13 ≤ k) with h | h | h | h | h
    · exact formOf_s0 w (by omega)
    · exact formOf_s1 w (by omega)
    · exact formOf_s2 w (by omega)
    · exact formOf_s3 w (by omega)
    · exact formOf_s4 w (by omega)
  · have hn : formS k = none := by
      cases h : formS k with
      | none => rfl
      | some f => exact absurd (by have := kinds (k := k) (by rw [h]; simp); omega) hk
    rw [hn]
    exact formOf_no w k hk
structure OpD where
  kind : Int
  cal : Int
  a : Int
  b : Int
  c : Int
  n : Int
def encOp (o : OpD) : List Value := [.int .u8 o.kind, .int .u8 o.cal, .int .u8 o.a, .int .u8 o.b, .int .u8 o.c, .int .i64 o.n]
theorem encOp_len : ∀ o, (encOp o).length = 6 := fun _ => rfl
def okReg (regs i : Nat) (r : Int) : Bool := if i < regs then decide (r < 8) else decide (r = 0)
def okNum (f : Fm) (n : Int) : Bool := if f.n = true then decide (f.least ≤ n) && decide (n ≤ f.most) else decide (n = 0)
def checkS (o : OpD) : Bool := match formS o.kind with
  | none => false
  | some f => (f.cal == decide (o.cal ≠ 0)) && decide (o.cal ≤ 14) && okReg f.regs 0 o.a && okReg f.regs 1 o.b && okReg f.regs 2 o.c && okNum f o.n
def codeV (b : Bool) : Value := .int .i64 (if b = true then 0 else 1)
def wfOp (o : OpD) : Prop := (0 ≤ o.kind ∧ o.kind < 256) ∧ (0 ≤ o.cal ∧ o.cal < 256) ∧ (0 ≤ o.a ∧ o.a < 256) ∧ (0 ≤ o.b ∧ o.b < 256) ∧ (0 ≤ o.c ∧ o.c < 256) ∧ (-9223372036854775808 ≤ o.n ∧ o.n ≤ 9223372036854775807)
theorem form_regs {k : Int} {f : Fm} (h : formS k = some f) : f.regs ≤ 3 := by
  have hk := kinds (k := k) (by rw [h]; simp)
  rcases hk with rfl | rfl | rfl | rfl | rfl | rfl | rfl | rfl | rfl | rfl | rfl | rfl | rfl | rfl | rfl <;> simp [formS] at h <;> subst h <;> decide
theorem num_ok {k n : Int} {f : Fm} (h : formS k = some f) (hf : f.n = true) (h1 : -9223372036854775808 ≤ n) (h2 : n ≤ 9223372036854775807) : numS k n = okNum f n := by
  have hk := kinds (k := k) (by rw [h]; simp)
  rcases hk with rfl | rfl | rfl | rfl | rfl | rfl | rfl | rfl | rfl | rfl | rfl | rfl | rfl | rfl | rfl <;> simp [formS] at h <;> subst h <;> simp [fm] at hf <;> simp [numS, okNum, fm, h1, h2]
def r3 (a b c : Int) : Nat → Int
  | 0 => a
  | 1 => b
  | _ => c
theorem check_no {k cal a b c n : Int} {f : Fm} (h : formS k = some f) {j : Nat} (hj : j < 3) (ho : okReg f.regs j (r3 a b c j) = false) : checkS ⟨k, cal, a, b, c, n⟩ = false := by
  rcases (by omega : j = 0 ∨ j = 1 ∨ j = 2) with rfl | rfl | rfl <;> (simp only [r3] at ho; simp [checkS, h, ho])
theorem check_yes {k cal a b c n : Int} {f : Fm} (h : formS k = some f) (hc : (f.cal == decide (cal ≠ 0)) = true) (h14 : cal ≤ 14) (ho : ∀ t, t < 3 → okReg f.regs t (r3 a b c t) = true) : checkS ⟨k, cal, a, b, c, n⟩ = okNum f n := by
  have h0 := ho 0 (by decide)
  have h1 := ho 1 (by decide)
  have h2 := ho 2 (by decide)
  simp only [r3] at h0 h1 h2
  simp only [checkS, h, hc, h14, h0, h1, h2, decide_true, Bool.and_true, Bool.true_and]
theorem check_cal {k cal a b c n : Int} {f : Fm} (h : formS k = some f) (hc : ¬ ((f.cal == decide (cal ≠ 0)) = true ∧ cal ≤ 14)) : checkS ⟨k, cal, a, b, c, n⟩ = false := by
  by_cases h1 : (f.cal == decide (cal ≠ 0)) = true
  · have h14 : ¬ cal ≤ 14 := fun q => hc ⟨h1, q⟩
    simp only [checkS, h, decide_eq_false h14, Bool.and_false, Bool.false_and]
  · simp only [Bool.not_eq_true] at h1
    simp only [checkS, h, h1, Bool.false_and]
theorem okReg_cases {r j : Nat} {v : Int} : (okReg r j v = true ∧ (j < r ∧ v < 8 ∨ r ≤ j ∧ v = 0)) ∨ (okReg r j v = false ∧ (j < r ∧ 8 ≤ v ∨ r ≤ j ∧ v ≠ 0)) := by
  unfold okReg
  by_cases h : j < r <;> by_cases h8 : v < 8 <;> by_cases h0 : v = 0 <;> simp [h, h8, h0] <;> omega
theorem check_any (w : World) (o : OpD) (hw : wfOp o) : Calls Tryz.prog 244 #[.agg (encOp o).toArray] w fun e w' => e = .returned (codeV (checkS o)) ∧ Below w.heap.size w w' := by
  obtain ⟨kind, cal, a, b, c, n⟩ := o
  obtain ⟨-, ⟨hc0, -⟩, ⟨ha0, -⟩, ⟨hb0, -⟩, ⟨hcc0, -⟩, -⟩ := hw
  simp only at hc0 ha0 hb0 hcc0
  unfold encOp
  go_enter Tryz.func244, Tryz.ntmps244
  go_wp2_with fail
  refine (formOf_any _ _).mono ?_
  rintro e w1 ⟨rfl, hb1⟩
  have hblk := blk hb1 (block_new w _)
  have y (i : Nat) (u : Value) (h : (#[Value.int .u8 kind, .int .u8 cal, .int .u8 a, .int .u8 b, .int .u8 c, .int .i64 n])[i]? = some u) : ∀ x, (w1.alloc x).cell? ⟨w.heap.size, i, none⟩ = some u := fun x => cell_of_block (block_alloc hblk) h
  have y0 := y 0 _ rfl
  have y1 := y 1 _ rfl
  have y2 := y 2 _ rfl
  have y3 := y 3 _ rfl
  have y4 := y 4 _ rfl
  have y5 := y 5 _ rfl
  have HB1 := hidI (bnextA (Below.refl _ _) hb1)
  have i0 : ∀ w, (Instr.index 393 (.agg #[.int .u8 a, .int .u8 b, .int .u8 c]) (.int .i64 0)).run Tryz.prog w = .ok (.int .u8 a) w := fun _ => by kernel_rfl
  have i1 : ∀ w, (Instr.index 393 (.agg #[.int .u8 a, .int .u8 b, .int .u8 c]) (.int .i64 1)).run Tryz.prog w = .ok (.int .u8 b) w := fun _ => by kernel_rfl
  have i2 : ∀ w, (Instr.index 393 (.agg #[.int .u8 a, .int .u8 b, .int .u8 c]) (.int .i64 2)).run Tryz.prog w = .ok (.int .u8 c) w := fun _ => by kernel_rfl
  clear hb1 hblk y
  cases hf : formS kind with
  | none =>
    unfold formV
    have HF := hidI hf
    clear hf
    go_wp2_with fail
    go_ret
    exact ⟨by simp [checkS, HF.out, codeV], HB1.out.alloc HB1.out.size _⟩
  | some f =>
    have hfr := form_regs hf
    obtain ⟨fc, fr, fn, fl, fM⟩ := f
    have HF := hidI hf
    clear hf
    simp only at hfr
    unfold formV encFm
    by_cases hq : fc = (cal != 0)
    · by_cases h14 : cal ≤ 14
      · have q1 : ¬ cal > 14 := by omega
        have HC := hidI (show (fc == decide (cal ≠ 0)) = true by rw [hq]; by_cases h : cal = 0 <;> simp [h])
        have HL := hidI h14
        have q2 : (cal != 0) = fc := hq.symm
        clear hq h14
        go_wp2_with fail
        go_loopw [35] (fun i wr => wr = w1.alloc (.cells #[.bool fc, .int .i64 fr, .bool fn, .int .i64 fl, .int .i64 fM] 390) ∧ ∃ j : Nat, j ≤ 3 ∧ i = .int .i64 (j : Int) ∧ Hid (∀ t, t < j → okReg fr t (r3 a b c t) = true)) (fun i _ => (3 - intOf i).toNat)
        case atStart => exact ⟨rfl, 0, by omega, rfl, fun t ht => absurd ht (Nat.not_lt_zero t)⟩
        case round =>
          obtain ⟨rfl, j, hj, rfl, G⟩ := hrel
          by_cases h3 : j < 3
          · obtain ⟨v, hv⟩ : ∃ v, r3 a b c j = v := ⟨_, rfl⟩
            have ix : ∀ w, (Instr.index 393 (.agg #[.int .u8 a, .int .u8 b, .int .u8 c]) (.int .i64 (j : Int))).run Tryz.prog w = .ok (.int .u8 v) w := by
              rcases (by omega : j = 0 ∨ j = 1 ∨ j = 2) with rfl | rfl | rfl <;> subst hv
              · exact i0
              · exact i1
              · exact i2
            have hw : IntKind.i64.wrap ((j : Int) + 1) = j + 1 := IntWalk.i64_in _ (by omega)
            have h3' : (j : Int) < 3 := by omega
            have hv0 : 0 ≤ v := by rw [← hv]; rcases (by omega : j = 0 ∨ j = 1 ∨ j = 2) with rfl | rfl | rfl <;> assumption
            rcases okReg_cases (r := fr) (j := j) (v := v) with ⟨ho, hq⟩ | ⟨ho, hq⟩
            · have HO := hidI (show ∀ t, t < j + 1 → okReg fr t (r3 a b c t) = true from fun t ht => by
                rcases Nat.lt_succ_iff_lt_or_eq.1 ht with h | rfl
                · exact G.out t h
                · rw [hv]; exact ho)
              clear ho hv
              rcases hq with ⟨hl, h8⟩ | ⟨hl, h8⟩
              · have e1 : (j : Int) < fr := by omega
                have e2 : ¬ (j : Int) ≥ fr := by omega
                have e3 : ¬ v ≥ 8 := by omega
                clear hl h8
                go_wp2_with fail
                exact ⟨⟨trivial, j + 1, by omega, by go_num, HO⟩, by simp [intOf]; omega⟩
              · have e1 : ¬ (j : Int) < fr := by omega
                have e2 : (j : Int) ≥ fr := by omega
                subst h8
                clear hl
                go_wp2_with fail
                exact ⟨⟨trivial, j + 1, by omega, by go_num, HO⟩, by simp [intOf]; omega⟩
            · have HN := hidI (check_no (cal := cal) (n := n) HF.out h3 (by rw [hv]; exact ho))
              clear ho hv
              rcases hq with ⟨hl, h8⟩ | ⟨hl, h8⟩
              · have e1 : (j : Int) < fr := by omega
                have e3 : v ≥ 8 := by omega
                clear hl h8
                go_wp2_with fail
                go_ret
                exact ⟨by rw [HN.out]; rfl, HB1.out.alloc HB1.out.size _⟩
              · have e1 : ¬ (j : Int) < fr := by omega
                have e2 : (j : Int) ≥ fr := by omega
                have e3 : (v != 0) = true := by simp [h8]
                have e4 : (v == 0) = false := by simp [h8]
                clear hl h8
                go_wp2_with fail
                go_ret
                exact ⟨by rw [HN.out]; rfl, HB1.out.alloc HB1.out.size _⟩
          · obtain rfl : j = 3 := by omega
            have HY := hidI (check_yes (n := n) HF.out HC.out HL.out G.out)
            clear hj h3
            cases fn with
            | true =>
              by_cases h1 : n < fl
              · go_wp2_with fail
                go_ret
                exact ⟨by rw [HY.out]; simp [codeV, okNum, show ¬ fl ≤ n by omega], HB1.out.alloc HB1.out.size _⟩
              · by_cases h2 : n > fM
                · go_wp2_with fail
                  go_ret
                  exact ⟨by rw [HY.out]; simp [codeV, okNum, show ¬ n ≤ fM by omega], HB1.out.alloc HB1.out.size _⟩
                · go_wp2_with fail
                  go_ret
                  exact ⟨by rw [HY.out]; simp [codeV, okNum, show n ≤ fM by omega, show fl ≤ n by omega], HB1.out.alloc HB1.out.size _⟩
            | false =>
              by_cases h1 : n = 0
              · subst h1
                go_wp2_with fail
                go_ret
                exact ⟨by rw [HY.out]; simp [codeV, okNum], HB1.out.alloc HB1.out.size _⟩
              · have h2 : (n == 0) = false := by simp [h1]
                have h3 : (n != 0) = true := by simp [h1]
                go_wp2_with fail
                go_ret
                exact ⟨by rw [HY.out]; simp [codeV, okNum, h1], HB1.out.alloc HB1.out.size _⟩
      · have q1 : cal > 14 := by omega
        have q2 : (cal != 0) = fc := hq.symm
        have HN := hidI (check_cal (a := a) (b := b) (c := c) (n := n) HF.out (fun q => h14 q.2))
        clear hq h14
        go_wp2_with fail
        go_ret
        exact ⟨by rw [HN.out]; rfl, HB1.out.alloc HB1.out.size _⟩
    · have q2 : (cal != 0) = !fc := by cases fc <;> cases h : (cal != 0) <;> simp_all
      have HN := hidI (check_cal (a := a) (b := b) (c := c) (n := n) HF.out (fun q => hq (by have q1 : fc = decide (cal ≠ 0) := eq_of_beq q.1; rw [q1]; by_cases h : cal = 0 <;> simp [h])))
      clear hq
      cases fc <;> (
        go_wp2_with fail
        go_ret
        exact ⟨by rw [HN.out]; rfl, HB1.out.alloc HB1.out.size _⟩)
end Go.Proofs.YtgodmogkhgilmaaGreatDoor

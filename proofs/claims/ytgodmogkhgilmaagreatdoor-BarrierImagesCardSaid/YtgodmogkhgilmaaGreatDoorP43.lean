/- Part of the proof: Ref17, RefI, Beyond -/
import Derived.Test.YtgodmogkhgilmaaGreatDoorP31
namespace Go.Proofs.YtgodmogkhgilmaaGreatDoor
open Go.RowKit
set_option linter.unusedVariables false
set_option linter.unusedSimpArgs false
set_option maxHeartbeats 8000000
set_option maxRecDepth 100000
theorem fields_no (w : World) (k : Int) (h : ¬ (1 ≤ k ∧ k ≤ 15)) : Calls Tryz.prog 126 #[.int .u8 k] w fun e w' => e = .returned (.tuple #[.agg #[.bool false, .int .i64 0, .bool false], .bool false]) ∧ Below w.heap.size w w' := by
  have k1 : (k == 1) = false := by simp; omega
  have k2 : (k == 2) = false := by simp; omega
  have k3 : (k == 3) = false := by simp; omega
  have k4 : (k == 4) = false := by simp; omega
  have k5 : (k == 5) = false := by simp; omega
  have k6 : (k == 6) = false := by simp; omega
  have k7 : (k == 7) = false := by simp; omega
  have k8 : (k == 8) = false := by simp; omega
  have k9 : (k == 9) = false := by simp; omega
  have k10 : (k == 10) = false := by simp; omega
  have k11 : (k == 11) = false := by simp; omega
  have k12 : (k == 12) = false := by simp; omega
  have k13 : (k == 13) = false := by simp; omega
  have k14 : (k == 14) = false := by simp; omega
  have k15 : (k == 15) = false := by simp; omega
  clear h
  go_enter Tryz.func126, Tryz.ntmps126
  go_wp2_with fail
  refine bodyPost_ret (v := .tuple #[.agg #[.bool false, .int .i64 0, .bool false], .bool false]) (by simp [results, Tryz.results126, go_sem]) rfl ⟨rfl, ?_⟩
  first | exact Below.refl _ _ | exact (Below.refl _ _).alloc (Nat.le_refl _) _ | exact ((Below.refl _ _).alloc (Nat.le_refl _) _).alloc (by simp) _
theorem fields_s0 (w : World) {k : Int} (h : k = 1 ∨ k = 2 ∨ k = 3) : Calls Tryz.prog 126 #[.int .u8 k] w fun e w' => e = .returned (fieldsV (formS k)) ∧ Below w.heap.size w w' := by
  rcases h with rfl | rfl | rfl <;> (
    go_enter Tryz.func126, Tryz.ntmps126
    go_wp2_with fail
    refine bodyPost_ret (by simp [results, Tryz.results126, go_sem]; rfl) rfl ⟨by simp [formS, fm, fieldsV, encFm, encFd]; done, ?_⟩
    first | exact Below.refl _ _ | exact (Below.refl _ _).alloc (Nat.le_refl _) _ | exact ((Below.refl _ _).alloc (Nat.le_refl _) _).alloc (by simp) _)
theorem fields_s1 (w : World) {k : Int} (h : k = 4 ∨ k = 5 ∨ k = 6) : Calls Tryz.prog 126 #[.int .u8 k] w fun e w' => e = .returned (fieldsV (formS k)) ∧ Below w.heap.size w w' := by
  rcases h with rfl | rfl | rfl <;> (
    go_enter Tryz.func126, Tryz.ntmps126
    go_wp2_with fail
    refine bodyPost_ret (by simp [results, Tryz.results126, go_sem]; rfl) rfl ⟨by simp [formS, fm, fieldsV, encFm, encFd]; done, ?_⟩
    first | exact Below.refl _ _ | exact (Below.refl _ _).alloc (Nat.le_refl _) _ | exact ((Below.refl _ _).alloc (Nat.le_refl _) _).alloc (by simp) _)
theorem fields_s2 (w : World) {k : Int} (h : k = 7 ∨ k = 8 ∨ k = 9) : Calls Tryz.prog 126 #[.int .u8 k] w fun e w' => e = .returned (fieldsV (formS k)) ∧ Below w.heap.size w w' := by
  rcases h with rfl | rfl | rfl <;> (
    go_enter Tryz.func126, Tryz.ntmps126
    go_wp2_with fail
    refine bodyPost_ret (by simp [results, Tryz.results126, go_sem]; rfl) rfl ⟨by simp [formS, fm, fieldsV, encFm, encFd]; done, ?_⟩
    first | exact Below.refl _ _ | exact (Below.refl _ _).alloc (Nat.le_refl _) _ | exact ((Below.refl _ _).alloc (Nat.le_refl _) _).alloc (by simp) _)
theorem fields_s3 (w : World) {k : Int} (h : k = 10 ∨ k = 11 ∨ k = 12) : Calls Tryz.prog 126 #[.int .u8 k] w fun e w' => e = .returned (fieldsV (formS k)) ∧ Below w.heap.size w w' := by
  rcases h with rfl | rfl | rfl <;> (
    go_enter Tryz.func126, Tryz.ntmps126
    go_wp2_with fail
    refine bodyPost_ret (by simp [results, Tryz.results126, go_sem]; rfl) rfl ⟨by simp [formS, fm, fieldsV, encFm, encFd]; done, ?_⟩
    first | exact Below.refl _ _ | exact (Below.refl _ _).alloc (Nat.le_refl _) _ | exact ((Below.refl _ _).alloc (Nat.le_refl _) _).alloc (by simp) _)
theorem fields_s4 (w : World) {k : Int} (h : k = 13 ∨ k = 14 ∨ k = 15) : Calls Tryz.prog 126 #[.int .u8 k] w fun e w' => e = .returned (fieldsV (formS k)) ∧ Below w.heap.size w w' := by
  rcases h with rfl | rfl | rfl <;> (
    go_enter Tryz.func126, Tryz.ntmps126
    go_wp2_with fail
    refine bodyPost_ret (by simp [results, Tryz.results126, go_sem]; rfl) rfl ⟨by simp [formS, fm, fieldsV, encFm, encFd]; done, ?_⟩
    first | exact Below.refl _ _ | exact (Below.refl _ _).alloc (Nat.le_refl _) _ | exact ((Below.refl _ _).alloc (Nat.le_refl _) _).alloc (by simp) _)
theorem fields_any (w : World) (k : Int) : Calls Tryz.prog 126 #[.int .u8 k] w fun e w' => e = .returned (fieldsV (formS k)) ∧ Below w.heap.size w w' := by
  by_cases hk : 1 ≤ k ∧ k ≤ 15
  · rcases (by omega : k ≤ 3 ∨ 4 ≤ k ∧ k ≤ 6 ∨ 7 ≤ k ∧ k ≤ 9 ∨ 10 ≤ k ∧ k ≤ 12 ∨ 13 ≤ k) with h | h | h | h | h
    · exact fields_s0 w (by omega)
    · exact fields_s1 w (by omega)
    · exact fields_s2 w (by omega)
    · exact fields_s3 w (by omega)
    · exact fields_s4 w (by omega)
  · have hn : formS k = none := by
      cases h : formS k with
      | none => rfl
      | some f => exact absurd (by have := kinds (k := k) (by rw [h]; simp); omega) hk
    rw [hn]
    exact fields_no w k hk
theorem number_any (w : World) (k n : Int) : Calls Tryz.prog 127 #[.int .u8 k, .int .i64 n] w fun e w' => e = .returned (.bool (numS k n)) ∧ Below w.heap.size w w' := by
  by_cases k6 : k = 6
  · subst k6
    rcases (by omega : n < 0 ∨ n > 262144 ∨ (0 ≤ n ∧ n ≤ 262144)) with h | h | ⟨h, h'⟩ <;> (
      go_enter Tryz.func127, Tryz.ntmps127
      go_wp2_with fail
      go_ret
      exact ⟨by simp [numS]; try omega, Below.refl _ _⟩)
  by_cases k7 : k = 7
  · subst k7
    rcases (by omega : n < 0 ∨ n > 262144 ∨ (0 ≤ n ∧ n ≤ 262144)) with h | h | ⟨h, h'⟩ <;> (
      go_enter Tryz.func127, Tryz.ntmps127
      go_wp2_with fail
      go_ret
      exact ⟨by simp [numS]; try omega, Below.refl _ _⟩)
  by_cases k12 : k = 12
  · subst k12
    rcases (by omega : n < 1 ∨ n > 8 ∨ (1 ≤ n ∧ n ≤ 8)) with h | h | ⟨h, h'⟩ <;> (
      go_enter Tryz.func127, Tryz.ntmps127
      go_wp2_with fail
      go_ret
      exact ⟨by simp [numS]; try omega, Below.refl _ _⟩)
  by_cases k13 : k = 13
  · subst k13
    rcases (by omega : n < 2 ∨ n > 8 ∨ (2 ≤ n ∧ n ≤ 8)) with h | h | ⟨h, h'⟩ <;> (
      go_enter Tryz.func127, Tryz.ntmps127
      go_wp2_with fail
      go_ret
      exact ⟨by simp [numS]; try omega, Below.refl _ _⟩)
  have b6 : (k == 6) = false := by simp [k6]
  have b7 : (k == 7) = false := by simp [k7]
  have b12 : (k == 12) = false := by simp [k12]
  have b13 : (k == 13) = false := by simp [k13]
  go_enter Tryz.func127, Tryz.ntmps127
  go_wp2_with fail
  go_ret
  exact ⟨by simp [numS, k6, k7, k12, k13], Below.refl _ _⟩
theorem rcheck_any (w : World) (o : OpD) (hw : wfOp o) : Calls Tryz.prog 28 #[.agg (encOp o).toArray] w fun e w' => e = .returned (codeV (checkS o)) ∧ Below w.heap.size w w' := by
  obtain ⟨kind, cal, a, b, c, n⟩ := o
  obtain ⟨-, ⟨hc0, -⟩, ⟨ha0, -⟩, ⟨hb0, -⟩, ⟨hcc0, -⟩, hn0, hn1⟩ := hw
  simp only at hc0 ha0 hb0 hcc0 hn0 hn1
  unfold encOp
  go_enter Tryz.func28, Tryz.ntmps28
  go_wp2_with fail
  refine (fields_any _ _).mono ?_
  rintro e w1 ⟨rfl, hb1⟩
  have hblk := blk hb1 (block_new w _)
  have y (i : Nat) (u : Value) (h : (#[Value.int .u8 kind, .int .u8 cal, .int .u8 a, .int .u8 b, .int .u8 c, .int .i64 n])[i]? = some u) : ∀ x, (w1.alloc x).cell? ⟨w.heap.size, i, none⟩ = some u := fun x => cell_of_block (block_alloc hblk) h
  have z (i : Nat) (u : Value) (h : (#[Value.int .u8 kind, .int .u8 cal, .int .u8 a, .int .u8 b, .int .u8 c, .int .i64 n])[i]? = some u) : ∀ x y, ((w1.alloc x).alloc y).cell? ⟨w.heap.size, i, none⟩ = some u := fun x y => cell_of_block (block_alloc (block_alloc hblk)) h
  have y0 := y 0 _ rfl
  have z0 := z 0 _ rfl
  have y1 := y 1 _ rfl
  have z1 := z 1 _ rfl
  have y2 := y 2 _ rfl
  have z2 := z 2 _ rfl
  have y3 := y 3 _ rfl
  have z3 := z 3 _ rfl
  have y4 := y 4 _ rfl
  have z4 := z 4 _ rfl
  have y5 := y 5 _ rfl
  have z5 := z 5 _ rfl
  have HB1 := hidI (bnextA (Below.refl _ _) hb1)
  clear hb1 hblk y z
  cases hf : formS kind with
  | none =>
    unfold fieldsV
    have HF := hidI hf
    clear hf
    go_wp2_with fail
    go_ret
    exact ⟨by simp [checkS, HF.out, codeV], HB1.out.alloc HB1.out.size _⟩
  | some f =>
    have hfr := form_regs hf
    obtain ⟨fc, fr, fn, fl, fM⟩ := f
    have HF := hidI hf
    clear hf
    simp only at hfr
    have HB2 := hidI (fun x y : Obj => (HB1.out.alloc HB1.out.size x).alloc (HB1.out.alloc HB1.out.size x).size y)
    have f (i : Nat) (u : Value) (h : (#[Value.bool fc, .int .i64 (fr : Int), .bool fn])[i]? = some u) : ∀ y, ((w1.alloc (.cells #[.bool fc, .int .i64 fr, .bool fn] 141)).alloc y).cell? ⟨w1.heap.size, i, none⟩ = some u := fun y => cell_of_block (block_alloc (block_new _ _)) h
    have f0 := f 0 _ rfl
    have f1 := f 1 _ rfl
    have f2 := f 2 _ rfl
    unfold fieldsV encFd
    go_wp2_with fail
    go_loopw [6] (fun i wr => wr = (w1.alloc (.cells #[.bool fc, .int .i64 fr, .bool fn] 141)).alloc (.cells #[.int .u8 a, .int .u8 b, .int .u8 c] 5) ∧ ∃ j : Nat, j ≤ 3 ∧ i = .int .i64 (j : Int) ∧ Hid (∀ t, t < j → okReg fr t (r3 a b c t) = true)) (fun i _ => (3 - intOf i).toNat)
    case atStart => exact ⟨rfl, 0, by omega, rfl, fun t ht => absurd ht (Nat.not_lt_zero t)⟩
    case round =>
      obtain ⟨rfl, j, hj, rfl, G⟩ := hrel
      by_cases h3 : j < 3
      · obtain ⟨v, hv⟩ : ∃ v, r3 a b c j = v := ⟨_, rfl⟩
        have g3 : ((w1.alloc (.cells #[.bool fc, .int .i64 fr, .bool fn] 141)).alloc (.cells #[.int .u8 a, .int .u8 b, .int .u8 c] 5)).cell? ⟨w1.heap.size + 1, j, none⟩ = some (.int .u8 v) := cell_of_block (block_new2 _ _ _) (by rcases (by omega : j = 0 ∨ j = 1 ∨ j = 2) with rfl | rfl | rfl <;> subst hv <;> rfl)
        have hw : IntKind.i64.wrap ((j : Int) + 1) = j + 1 := IntWalk.i64_in _ (by omega)
        have h3' : (j : Int) < 3 := by omega
        have hv0 : 0 ≤ v := by rw [← hv]; rcases (by omega : j = 0 ∨ j = 1 ∨ j = 2) with rfl | rfl | rfl <;> assumption
        rcases okReg_cases (r := fr) (j := j) (v := v) with ⟨ho, hq⟩ | ⟨ho, hq⟩
        · have HO := hidI (show ∀ t, t < j + 1 → okReg fr t (r3 a b c t) = true from fun t ht => by
            rcases Nat.lt_succ_iff_lt_or_eq.1 ht with h | rfl
            · exact G.out t h
            · rw [hv]; exact ho)
          clear ho hv
          rcases hq with ⟨hl, h8⟩ | ⟨hl, h8⟩
          · have e1 : (j : Int) < fr := by omega
            have e2 : ¬ (j : Int) ≥ fr := by omega
            have e3 : ¬ v ≥ 8 := by omega
            clear hl h8
            go_wp2_with fail
            exact ⟨⟨trivial, j + 1, by omega, by go_num, HO⟩, by simp [intOf]; omega⟩
          · have e1 : ¬ (j : Int) < fr := by omega
            have e2 : (j : Int) ≥ fr := by omega
            subst h8
            clear hl
            go_wp2_with fail
            exact ⟨⟨trivial, j + 1, by omega, by go_num, HO⟩, by simp [intOf]; omega⟩
        · have HN := hidI (check_no (cal := cal) (n := n) HF.out h3 (by rw [hv]; exact ho))
          clear ho hv
          rcases hq with ⟨hl, h8⟩ | ⟨hl, h8⟩
          · have e1 : (j : Int) < fr := by omega
            have e3 : v ≥ 8 := by omega
            clear hl h8
            go_wp2_with fail
            go_ret
            exact ⟨by rw [HN.out]; rfl, HB2.out _ _⟩
          · have e1 : ¬ (j : Int) < fr := by omega
            have e2 : (j : Int) ≥ fr := by omega
            have e3 : (v != 0) = true := by simp [h8]
            have e4 : (v == 0) = false := by simp [h8]
            clear hl h8
            go_wp2_with fail
            go_ret
            exact ⟨by rw [HN.out]; rfl, HB2.out _ _⟩
      · obtain rfl : j = 3 := by omega
        clear hj h3
        have q3 : (fc = true ∧ 1 ≤ cal ∧ cal ≤ 14 ∨ fc = false ∧ cal = 0) ∨ (fc = true ∧ cal < 1 ∨ fc = true ∧ 1 ≤ cal ∧ cal > 14 ∨ fc = false ∧ cal ≠ 0) := by cases fc <;> simp <;> omega
        rcases q3 with q3 | q3
        · have HY := hidI (check_yes (n := n) HF.out (cal := cal) (by rcases q3 with ⟨rfl, h1, -⟩ | ⟨rfl, rfl⟩ <;> simp; omega) (by rcases q3 with ⟨-, -, h⟩ | ⟨-, rfl⟩ <;> omega) G.out)
          have HW := hidI (show fn = true → checkS ⟨kind, cal, a, b, c, n⟩ = numS kind n from fun hfn => by rw [HY.out, num_ok HF.out hfn hn0 hn1])
          have HW2 := hidI (show fn = false → checkS ⟨kind, cal, a, b, c, n⟩ = decide (n = 0) from fun hfn => by rw [HY.out, hfn]; simp [okNum])
          clear HY G
          rcases q3 with ⟨rfl, h1, h2⟩ | ⟨rfl, rfl⟩
          · have e1 : ¬ cal < 1 := by omega
            have e2 : ¬ cal > 14 := by omega
            clear h1 h2
            cases fn with
            | true =>
              go_wp2_with fail
              refine (number_any _ _ _).mono ?_
              rintro e w2 ⟨rfl, hb2⟩
              have HB3 := hidI ((HB2.out _ _).trans (hb2.mono (HB2.out _ _).size))
              clear hb2
              cases hnum : numS kind n <;> (
                have EQ := hidI ((HW.out (by trivial)).trans hnum)
                clear hnum
                go_wp2_with fail
                go_ret
                exact ⟨by rw [EQ.out]; rfl, HB3.out⟩)
            | false =>
              by_cases h1 : n = 0
              · subst h1
                go_wp2_with fail
                go_ret
                exact ⟨by rw [HW2.out (by trivial)]; rfl, HB2.out _ _⟩
              · have h2 : (n == 0) = false := by simp [h1]
                have h3 : (n != 0) = true := by simp [h1]
                have HZ := hidI (decide_eq_false h1)
                clear h1
                go_wp2_with fail
                go_ret
                exact ⟨by rw [HW2.out (by trivial), HZ.out]; rfl, HB2.out _ _⟩
          · cases fn with
            | true =>
              go_wp2_with fail
              refine (number_any _ _ _).mono ?_
              rintro e w2 ⟨rfl, hb2⟩
              have HB3 := hidI ((HB2.out _ _).trans (hb2.mono (HB2.out _ _).size))
              clear hb2
              cases hnum : numS kind n <;> (
                have EQ := hidI ((HW.out (by trivial)).trans hnum)
                clear hnum
                go_wp2_with fail
                go_ret
                exact ⟨by rw [EQ.out]; rfl, HB3.out⟩)
            | false =>
              by_cases h1 : n = 0
              · subst h1
                go_wp2_with fail
                go_ret
                exact ⟨by rw [HW2.out (by trivial)]; rfl, HB2.out _ _⟩
              · have h2 : (n == 0) = false := by simp [h1]
                have h3 : (n != 0) = true := by simp [h1]
                have HZ := hidI (decide_eq_false h1)
                clear h1
                go_wp2_with fail
                go_ret
                exact ⟨by rw [HW2.out (by trivial), HZ.out]; rfl, HB2.out _ _⟩
        · have HN := hidI (check_cal (n := n) (a := a) (b := b) (c := c) (cal := cal) HF.out (fun q => by
            have q1 : fc = decide (cal ≠ 0) := eq_of_beq q.1
            rcases q3 with ⟨h, h1⟩ | ⟨h, h1, h2⟩ | ⟨h, h1⟩
            · rw [h] at q1; simp at q1; omega
            · omega
            · rw [h] at q1; simp at q1; omega))
          clear G
          rcases q3 with ⟨rfl, h1⟩ | ⟨rfl, h1, h2⟩ | ⟨rfl, h1⟩
          · go_wp2_with fail
            go_ret
            exact ⟨by rw [HN.out]; rfl, HB2.out _ _⟩
          · have e1 : ¬ cal < 1 := by omega
            clear h1
            go_wp2_with fail
            go_ret
            exact ⟨by rw [HN.out]; rfl, HB2.out _ _⟩
          · have e1 : (cal == 0) = false := by simp [h1]
            have e2 : (cal != 0) = true := by simp [h1]
            clear h1
            go_wp2_with fail
            go_ret
            exact ⟨by rw [HN.out]; rfl, HB2.out _ _⟩
section
variable {w w' : World}
theorem cells_len {mem : Int} : ∀ {cs : List (Int × Int)} {last : Int}, last < mem → cellsOk mem last cs = true → (cs.length : Int) ≤ mem - 1 - last
  | [], last, hl, _ => by simp; omega
  | c :: r, last, hl, h => by
    simp only [cellsOk, Bool.and_eq_true, decide_eq_true_eq] at h
    have := cells_len (cs := r) h.1.2 h.2
    simp only [List.length_cons]
    omega
theorem rcheckM_any {ca cca : Option Addr} {ccap ccca : Nat} {l : List (Value × List OpD)} {cs : List (Int × Int)} (h : CodeAt w (.slice ca l.length ccap) l) (hc : RdT encCell w 2 (.slice cca cs.length ccca) cs) (mem : Int) (hl : l.length ≤ 6000000000000) (hcl : cs.length ≤ 9000000000000) (hol : ∀ p ∈ l, p.2.length ≤ 9000000000000) :
    Calls Tryz.prog 13 #[.agg #[.slice ca l.length ccap, .int .i64 mem, .slice cca cs.length ccca]] w fun e w' => e = .returned (.int .i64 (checkM mem l cs)) ∧ Below w.heap.size w w' := by
  have H := hidI h
  have HC := hidI hc
  have HL := hidI hl
  have HCL := hidI hcl
  have HOL := hidI hol
  have hb0 : Below w.heap.size w (w.alloc (Obj.cells #[.slice ca l.length ccap, .int .i64 mem, .slice cca cs.length ccca] 30)) := (Below.refl _ _).alloc (Nat.le_refl _) _
  have hbox := block_new w (.cells #[.slice ca l.length ccap, .int .i64 mem, .slice cca cs.length ccca] 30)
  have H0 := hidI (h.below hb0)
  have HC0 := hidI (Rd.below hc hb0)
  have HB := hidI hb0
  have d0 : (w.alloc (Obj.cells #[.slice ca l.length ccap, .int .i64 mem, .slice cca cs.length ccca] 30)).cell? ⟨w.heap.size, 0, none⟩ = some (.slice ca l.length ccap) := cell_of_block hbox rfl
  have d1 : (w.alloc (Obj.cells #[.slice ca l.length ccap, .int .i64 mem, .slice cca cs.length ccca] 30)).cell? ⟨w.heap.size, 1, none⟩ = some (.int .i64 mem) := cell_of_block hbox rfl
  have d2 : (w.alloc (Obj.cells #[.slice ca l.length ccap, .int .i64 mem, .slice cca cs.length ccca] 30)).cell? ⟨w.heap.size, 2, none⟩ = some (.slice cca cs.length ccca) := cell_of_block hbox rfl
  clear h hc hl hcl hb0 hbox hol
  by_cases hA1 : 262144 < mem ∨ 4 < l.length
  · have HE := hidI (show checkM mem l cs = 3 from by unfold checkM; rw [if_pos (by omega)])
    by_cases a1 : mem > 262144
    · clear hA1
      go_enter Tryz.func13, Tryz.ntmps13
      go_wp2_with fail
      go_ret
      exact ⟨by rw [HE.out]; rfl, HB.out⟩
    · have a2 : (l.length : Int) > 4 := by omega
      clear hA1
      go_enter Tryz.func13, Tryz.ntmps13
      go_wp2_with fail
      go_ret
      exact ⟨by rw [HE.out]; rfl, HB.out⟩
  · have a1 : ¬ mem > 262144 := by omega
    have a2 : ¬ (l.length : Int) > 4 := by omega
    have h4 : l.length ≤ 4 := by omega
    have HA1 := hidI hA1
    clear hA1
    go_enter Tryz.func13, Tryz.ntmps13
    go_wp2_with fail
    generalize (w.alloc (Obj.cells #[.slice ca l.length ccap, .int .i64 mem, .slice cca cs.length ccca] 30)) = w0 at H0 HC0 HB d0 d1 d2 ⊢
    go_loopw [3, 4] (fun c i w' => ∃ k : Nat, k ≤ l.length ∧ i = .int .i64 (k : Int) ∧ c = .int .i64 (262144 - (countS (l.take k) : Int)) ∧ countS (l.take k) ≤ 262144 ∧ w' = w0) (fun c i _ => ((l.length : Int) - intOf i).toNat)
    case atStart => exact ⟨0, by omega, rfl, by simp [countS], by simp [countS], rfl⟩
    case round =>
      obtain ⟨k, hk, rfl, rfl, hcnt, hw⟩ := hrel
      obtain rfl := hw.symm
      by_cases hlt : k < l.length
      · have hp := List.getElem?_eq_getElem hlt
        generalize l[k] = p at hp
        obtain ⟨cb, co, rfl, hcb, hcc⟩ := RdT.at encC_len H0.out.rows hp
        have i0 := hcc 0 _ rfl
        obtain ⟨ao, cap, hcv⟩ := (H0.out.each p (List.mem_of_getElem? hp)).shape
        have hst := count_step hp
        rw [Nat.mul_one, Nat.add_zero, hcv] at i0
        have hpl := HOL.out p (List.mem_of_getElem? hp)
        have HST := hidI hst
        have HP := hidI hp
        clear hst hcc hcv hp
        by_cases hbig : 262144 - (countS (l.take k) : Int) - (p.2.length : Int) < 0
        · have HE := hidI (show checkM mem l cs = 3 from by
            have h1 : countS (l.take (k + 1)) ≤ countS l := by
              unfold countS
              conv => rhs; rw [← List.take_append_drop (k + 1) l, List.map_append, List.sum_append]
              omega
            have h2 := HST.out
            unfold checkM
            rw [if_pos (by omega)])
          go_wp2_with fail
          go_ret
          exact ⟨by rw [HE.out]; rfl, HB.out⟩
        · have h2 : countS (l.take (k + 1)) = countS (l.take k) + p.2.length := by have := HST.out; omega
          have HS2 := hidI h2
          clear h2
          go_wp2_with fail
          exact ⟨⟨k + 1, by omega, by go_num, by rw [HS2.out]; first | rfl | (congr 1; omega), by have := HS2.out; omega, by trivial⟩, by simp [intOf]; omega⟩
      · obtain rfl : k = l.length := by omega
        rw [List.take_length] at hcnt
        have HCNT := hidI hcnt
        have HNA := hidI (show ¬ (262144 < mem ∨ 4 < l.length ∨ 262144 < countS l) from by have := HA1.out; omega)
        have HEACH := hidI (count_each (l := l) hcnt)
        clear hcnt
        by_cases hm : mem < 1 ∨ mem < (cs.length : Int)
        · have HE := hidI (show checkM mem l cs = 1 from by
            unfold checkM
            rw [if_neg HNA.out]
            by_cases h1 : mem < 1
            · rw [if_pos h1]
            · rw [if_neg h1]
              split
              · rfl
              · rw [if_pos]
                rw [← Bool.not_eq_true]
                intro hc
                have := cells_len (by omega) hc
                omega)
          by_cases h1 : mem < 1
          · clear hm
            go_wp2_with fail
            go_ret
            exact ⟨by rw [HE.out]; rfl, HB.out⟩
          · have h2 : (cs.length : Int) > mem := by omega
            clear hm
            go_wp2_with fail
            go_ret
            exact ⟨by rw [HE.out]; rfl, HB.out⟩
        · have h1 : ¬ mem < 1 := by omega
          have h2 : ¬ (cs.length : Int) > mem := by omega
          have HM := hidI h1
          clear hm
          go_wp2_with fail
          have hcl := HCL.out
          clear a1 a2 h1 h2
          go_loopw [5] (fun i w' => ∃ k : Nat, k ≤ l.length ∧ i = .int .i64 (k : Int) ∧ Hid (Below w0.heap.size w0 w' ∧ ∀ j (p : Value × List OpD), j < k → l[j]? = some p → p.2.all checkS = true)) (fun i _ => ((l.length : Int) - intOf i).toNat)
          case atStart => exact ⟨0, by omega, rfl, ⟨Below.refl _ _, fun j p hj => absurd hj (by omega)⟩⟩
          case round =>
            obtain ⟨k, hk, rfl, HR⟩ := hrel
            have e0 : wr.cell? ⟨w.heap.size, 0, none⟩ = some (.slice ca l.length ccap) := cell_later HR.out.1 d0
            by_cases hlt : k < l.length
            · have hp := List.getElem?_eq_getElem hlt
              generalize l[k] = p at hp
              have hmp := List.mem_of_getElem? hp
              obtain ⟨ao, cap, hcv⟩ := (H0.out.each p hmp).shape
              have hrow := H0.out.each p hmp
              rw [hcv] at hrow
              obtain ⟨cb, co, e1, hcb, hcc⟩ := RdT.at encC_len H0.out.rows hp
              have i0 := hcc 0 _ rfl
              rw [Nat.mul_one, Nat.add_zero, hcv] at i0
              subst e1
              have HI0 := hidI i0
              have HROW := hidI hrow
              have hple := HEACH.out p hmp
              have HWF := hidI (H0.out.wf p hmp)
              have HP := hidI hp
              clear hcc hcv hcb hrow hmp hp i0
              go_wp2_with fail
              go_loopw [6] (fun i w' => ∃ m : Nat, m ≤ p.2.length ∧ i = .int .i64 (m : Int) ∧ Hid (Below w0.heap.size w0 w' ∧ ∀ o ∈ p.2.take m, checkS o = true)) (fun i _ => ((p.2.length : Int) - intOf i).toNat)
              case atStart => exact ⟨0, by omega, rfl, ⟨HR.out.1, fun o ho => by simp at ho⟩⟩
              case round =>
                obtain ⟨m, hm, rfl, HS⟩ := hrel
                obtain ⟨wi, rfl⟩ : ∃ x, x = wr := ⟨_, rfl⟩
                have f0 := cell_later HS.out.1 d0
                have fi := cell_later HS.out.1 HI0.out
                by_cases hlm : m < p.2.length
                · obtain ⟨o, ho⟩ := some_at hlm
                  obtain ⟨ob, oo, e1, hob, hoc⟩ := RdT.at encOp_len (Rd.below HROW.out HS.out.1) ho
                  subst e1
                  have g0 := hoc 0 _ rfl
                  have g1 := hoc 1 _ rfl
                  have g2 := hoc 2 _ rfl
                  have g3 := hoc 3 _ rfl
                  have g4 := hoc 4 _ rfl
                  have g5 := hoc 5 _ rfl
                  simp only [Nat.add_zero] at g0
                  have HOO := hidI ho
                  clear hoc hob ho
                  go_wp2_with fail
                  refine (rcheck_any _ o (HWF.out o (List.mem_of_getElem? HOO.out))).mono ?_
                  rintro e w2 ⟨rfl, hb2⟩
                  have HB2 := hidI (bnext HS.out.1 hb2)
                  clear hb2
                  cases hck : checkS o with
                  | false =>
                    have HCK := hidI hck
                    clear hck
                    simp only [codeV]
                    go_wp2_with fail
                    go_ret
                    refine ⟨?_, bnext HB.out HB2.out⟩
                    rw [show checkM mem l cs = 1 from by
                      unfold checkM
                      rw [if_neg HNA.out, if_neg (show ¬ mem < 1 from by have := HM.out; omega), if_pos]
                      rw [List.all_eq_false]
                      exact ⟨p, List.mem_of_getElem? HP.out, by
                        rw [Bool.not_eq_true, List.all_eq_false]
                        exact ⟨o, List.mem_of_getElem? HOO.out, by rw [HCK.out]; decide⟩⟩]
                    rfl
                  | true =>
                    have HCK := hidI hck
                    clear hck
                    simp only [codeV]
                    go_wp2_with fail
                    refine ⟨⟨m + 1, by omega, by go_num, ⟨HB2.out, fun q hq => ?_⟩⟩, by simp [intOf]; omega⟩
                    rw [take_snoc HOO.out] at hq
                    rcases List.mem_append.1 hq with hq | hq
                    · exact HS.out.2 q hq
                    · rw [List.mem_singleton.1 hq]; exact HCK.out
                · obtain rfl : m = p.2.length := by omega
                  go_wp2_with fail
                  refine ⟨⟨k + 1, by omega, by go_num, ⟨HS.out.1, fun j q hj hq => ?_⟩⟩, by simp [intOf]; omega⟩
                  by_cases e : j = k
                  · subst e
                    rw [HP.out] at hq
                    cases hq
                    rw [List.all_eq_true]
                    intro o ho
                    exact HS.out.2 o (by rw [List.take_length]; exact ho)
                  · exact HR.out.2 j q (by omega) hq
            · obtain rfl : k = l.length := by omega
              have HALL := hidI (show (l.all fun p => p.2.all checkS) = true from by
                rw [List.all_eq_true]
                intro p hp
                obtain ⟨j, hj⟩ := List.getElem?_of_mem hp
                exact HR.out.2 j p (List.getElem?_eq_some_iff.1 hj).1 hj)
              have HB1 := hidI HR.out.1
              have q1 := cell_later HB1.out d1
              have q2 := cell_later HB1.out d2
              have HC1 := hidI (Rd.below HC0.out HB1.out)
              obtain ⟨w1, rfl⟩ : ∃ x, x = wr := ⟨_, rfl⟩
              clear d0 d1 d2 HR
              go_wp2_with fail
              go_loopw [7, 8] (fun lv i w' => ∃ (k : Nat) (la : Int), k ≤ cs.length ∧ i = .int .i64 (k : Int) ∧ lv = .int .i64 la ∧ Hid (Below w1.heap.size w1 w' ∧ cellsOk mem (-1) cs = cellsOk mem la (cs.drop k))) (fun lv i _ => ((cs.length : Int) - intOf i).toNat)
              case atStart => exact ⟨0, -1, by omega, rfl, rfl, ⟨Below.refl _ _, by simp⟩⟩
              case round =>
                obtain ⟨k, la, hk, rfl, rfl, HR⟩ := hrel
                have m1 := cell_later HR.out.1 q1
                have m2 := cell_later HR.out.1 q2
                by_cases hlt : k < cs.length
                · have hp := List.getElem?_eq_getElem hlt
                  have hdr := List.drop_eq_getElem_cons hlt
                  generalize cs[k] = c at hp hdr
                  obtain ⟨cat, cv⟩ := c
                  obtain ⟨cb, co, e1, hcb, hcc⟩ := RdT.at encCell_len (Rd.below HC1.out HR.out.1) hp
                  have i0 := hcc 0 _ rfl
                  rw [Nat.add_zero] at i0
                  have HD := hidI (show cellsOk mem (-1) cs = (decide (la < cat ∧ cat < mem) && cellsOk mem cat (cs.drop (k + 1))) from by rw [HR.out.2, hdr]; rfl)
                  have HB2 := hidI HR.out.1
                  subst e1
                  clear hcc hcb hp hdr HR
                  by_cases b1 : cat ≤ la
                  · go_wp2_with fail
                    go_quiet (fail)
                    go_wp2_with fail
                    go_ret
                    refine ⟨?_, below_drewN (bnext HB.out (bnext HB1.out HB2.out)) _⟩
                    rw [show checkM mem l cs = 1 from by
                      unfold checkM
                      rw [if_neg HNA.out, if_neg (show ¬ mem < 1 from by have := HM.out; omega), if_neg (by rw [HALL.out]; decide), if_pos]
                      rw [HD.out, decide_eq_false (by omega)]
                      rfl]
                    rfl
                  · by_cases b2 : cat ≥ mem
                    · go_wp2_with fail
                      go_quiet (fail)
                      go_wp2_with fail
                      go_ret
                      refine ⟨?_, below_drewN (bnext HB.out (bnext HB1.out HB2.out)) _⟩
                      rw [show checkM mem l cs = 1 from by
                        unfold checkM
                        rw [if_neg HNA.out, if_neg (show ¬ mem < 1 from by have := HM.out; omega), if_neg (by rw [HALL.out]; decide), if_pos]
                        rw [HD.out, decide_eq_false (by omega)]
                        rfl]
                      rfl
                    · have b1' : la < cat := by omega
                      have b2' : cat < mem := by omega
                      have HBB := hidI (And.intro b1' b2')
                      clear b1' b2'
                      go_wp2_with fail
                      go_quiet (fail)
                      go_wp2_with fail
                      refine ⟨⟨k + 1, cat, by omega, by go_num, rfl, ⟨below_drewN HB2.out _, by rw [HD.out, decide_eq_true HBB.out]; rfl⟩⟩, by simp [intOf]; omega⟩
                · obtain rfl : k = cs.length := by omega
                  go_wp2_with fail
                  go_ret
                  refine ⟨?_, bnext HB.out (bnext HB1.out HR.out.1)⟩
                  rw [show checkM mem l cs = 0 from by
                    unfold checkM
                    rw [if_neg HNA.out, if_neg (show ¬ mem < 1 from by have := HM.out; omega), if_neg (by rw [HALL.out]; decide), if_neg]
                    rw [HR.out.2]
                    simp [cellsOk]]
                  rfl
end
theorem beyond1 {w : World} {b : Nat} {t : TypeId} (n : Nat) (hb : w.heap[b]? = some (.cells #[.int .i64 (n : Int)] t (0, 0))) (hn : n < 2 ^ 62) :
    Calls Tryz.prog 4 #[.slice (some ⟨b, 0, none⟩) 1 1] w fun e w' => e = .returned (.bool (decide (262144 < n))) ∧ Below w.heap.size w w' := by
  have x0 : w.cell? ⟨b, 0, none⟩ = some (.int .i64 (n : Int)) := cell_of_block hb rfl
  clear hb
  by_cases h : n ≤ 262144
  · have h1 : ¬ ((n : Int) > 262144) := by omega
    have h2 : ¬ ((n : Int) < 0) := by omega
    rw [show decide (262144 < n) = false from by simp; omega]
    go_enter Tryz.func4, Tryz.ntmps4
    go_wp2_with fail
    go_loopw [4, 3] (fun i acc wr => wr = w ∧ (i = .int .i64 0 ∧ acc = .int .i64 0 ∨ i = .int .i64 1 ∧ acc = .int .i64 (n : Int))) (fun i _ _ => (1 - intOf i).toNat)
    case atStart => exact ⟨rfl, .inl ⟨rfl, rfl⟩⟩
    case round =>
      obtain ⟨rfl, ⟨rfl, rfl⟩ | ⟨rfl, rfl⟩⟩ := hrel
      · go_wp2
        exact ⟨⟨trivial, .inr ⟨rfl, rfl⟩⟩, by simp [intOf]⟩
      · go_wp2
        go_ret
        exact ⟨rfl, Below.refl _ _⟩
  · have h1 : ((n : Int) > 262144) := by omega
    have h2 : ¬ ((n : Int) < 0) := by omega
    rw [show decide (262144 < n) = true from by simp; omega]
    go_enter Tryz.func4, Tryz.ntmps4
    go_wp2_with fail
    go_loopw [4, 3] (fun i acc wr => wr = w ∧ i = .int .i64 0 ∧ acc = .int .i64 0) (fun i _ _ => (1 - intOf i).toNat)
    case atStart => exact ⟨rfl, rfl, rfl⟩
    case round =>
      obtain ⟨rfl, rfl, rfl⟩ := hrel
      go_wp2
      go_ret
      exact ⟨rfl, Below.refl _ _⟩
end Go.Proofs.YtgodmogkhgilmaaGreatDoor

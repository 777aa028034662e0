/- The contracts of number and of both Checks: as checkS says. Written by mkisab.py. -/
import Derived.Test.YtbfghkhfiflibaaGreatDoorIsaA
namespace Go.Proofs.YtbfghkhfiflibaaGreatDoor
open Go.RowKit

/-- an instruction's fields -/
structure OpD where
  kind : Int
  cal : Int
  a : Int
  b : Int
  c : Int
  n : Int
def encOp (o : OpD) : List Value := [.int .u8 o.kind, .int .u8 o.cal, .int .u8 o.a, .int .u8 o.b, .int .u8 o.c, .int .i64 o.n]
theorem encOp_len : ∀ o, (encOp o).length = 6 := fun _ => rfl
def okReg (regs i : Nat) (r : Int) : Bool := if i < regs then decide (r < 8) else decide (r = 0)
def okNum (f : Fm) (n : Int) : Bool := if f.n = true then decide (f.least ≤ n) && decide (n ≤ f.most) else decide (n = 0)
def checkS (o : OpD) : Bool := match formS o.kind with
  | none => false
  | some f => (f.cal == decide (o.cal ≠ 0)) && decide (o.cal ≤ 14) && okReg f.regs 0 o.a && okReg f.regs 1 o.b && okReg f.regs 2 o.c && okNum f o.n
def codeV (b : Bool) : Value := .int .i64 (if b = true then 0 else 1)
/-- the fields as Go's types have them -/
def wfOp (o : OpD) : Prop := (0 ≤ o.kind ∧ o.kind < 256) ∧ (0 ≤ o.cal ∧ o.cal < 256) ∧ (0 ≤ o.a ∧ o.a < 256) ∧ (0 ≤ o.b ∧ o.b < 256) ∧ (0 ≤ o.c ∧ o.c < 256) ∧ (-9223372036854775808 ≤ o.n ∧ o.n ≤ 9223372036854775807)

theorem form_regs {k : Int} {f : Fm} (h : formS k = some f) : f.regs ≤ 3 := by
  have hk := kinds (k := k) (by rw [h]; simp)
  rcases hk with rfl | rfl | rfl | rfl | rfl | rfl | rfl | rfl | rfl | rfl | rfl | rfl | rfl | rfl | rfl <;> simp [formS] at h <;> subst h <;> decide
theorem num_ok {k n : Int} {f : Fm} (h : formS k = some f) (hf : f.n = true) (h1 : -9223372036854775808 ≤ n) (h2 : n ≤ 9223372036854775807) : numS k n = okNum f n := by
  have hk := kinds (k := k) (by rw [h]; simp)
  rcases hk with rfl | rfl | rfl | rfl | rfl | rfl | rfl | rfl | rfl | rfl | rfl | rfl | rfl | rfl | rfl <;> simp [formS] at h <;> subst h <;> simp [fm] at hf <;> simp [numS, okNum, fm, h1, h2]

set_option maxHeartbeats 1000000 in
theorem number_any (w : World) (k n : Int) : Calls Tryz.prog 148 #[.int .u8 k, .int .i64 n] w fun e w' => e = .returned (.bool (numS k n)) ∧ Below w.heap.size w w' := by
  by_cases k6 : k = 6
  · subst k6
    by_cases h1 : 0 ≤ n
    · by_cases h2 : n ≤ 262144
      · go_enter Tryz.func148, Tryz.ntmps148
        go_wp2_with fail
        go_ret
        exact ⟨by simp [numS, h1, h2], Below.refl _ _⟩
      · go_enter Tryz.func148, Tryz.ntmps148
        go_wp2_with fail
        go_ret
        exact ⟨by simp [numS]; omega, Below.refl _ _⟩
    · have h1' : n < 0 := by omega
      go_enter Tryz.func148, Tryz.ntmps148
      go_wp2_with fail
      go_ret
      exact ⟨by simp [numS]; omega, Below.refl _ _⟩
  by_cases k7 : k = 7
  · subst k7
    by_cases h1 : 0 ≤ n
    · by_cases h2 : n ≤ 262144
      · go_enter Tryz.func148, Tryz.ntmps148
        go_wp2_with fail
        go_ret
        exact ⟨by simp [numS, h1, h2], Below.refl _ _⟩
      · go_enter Tryz.func148, Tryz.ntmps148
        go_wp2_with fail
        go_ret
        exact ⟨by simp [numS]; omega, Below.refl _ _⟩
    · have h1' : n < 0 := by omega
      go_enter Tryz.func148, Tryz.ntmps148
      go_wp2_with fail
      go_ret
      exact ⟨by simp [numS]; omega, Below.refl _ _⟩
  by_cases k12 : k = 12
  · subst k12
    by_cases h1 : 1 ≤ n
    · by_cases h2 : n ≤ 8
      · go_enter Tryz.func148, Tryz.ntmps148
        go_wp2_with fail
        go_ret
        exact ⟨by simp [numS, h1, h2], Below.refl _ _⟩
      · go_enter Tryz.func148, Tryz.ntmps148
        go_wp2_with fail
        go_ret
        exact ⟨by simp [numS]; omega, Below.refl _ _⟩
    · have h1' : n < 1 := by omega
      go_enter Tryz.func148, Tryz.ntmps148
      go_wp2_with fail
      go_ret
      exact ⟨by simp [numS]; omega, Below.refl _ _⟩
  by_cases k13 : k = 13
  · subst k13
    by_cases h1 : 2 ≤ n
    · by_cases h2 : n ≤ 8
      · go_enter Tryz.func148, Tryz.ntmps148
        go_wp2_with fail
        go_ret
        exact ⟨by simp [numS, h1, h2], Below.refl _ _⟩
      · go_enter Tryz.func148, Tryz.ntmps148
        go_wp2_with fail
        go_ret
        exact ⟨by simp [numS]; omega, Below.refl _ _⟩
    · have h1' : n < 2 := by omega
      go_enter Tryz.func148, Tryz.ntmps148
      go_wp2_with fail
      go_ret
      exact ⟨by simp [numS]; omega, Below.refl _ _⟩
  have b6 : (k == 6) = false := by simp [k6]
  have b7 : (k == 7) = false := by simp [k7]
  have b12 : (k == 12) = false := by simp [k12]
  have b13 : (k == 13) = false := by simp [k13]
  go_enter Tryz.func148, Tryz.ntmps148
  go_wp2_with fail
  go_ret
  exact ⟨by simp [numS, k6, k7, k12, k13], Below.refl _ _⟩

set_option maxHeartbeats 4000000 in
theorem check_any (w : World) (o : OpD) (hw : wfOp o) : Calls Tryz.prog 11 #[.agg (encOp o).toArray] w fun e w' => e = .returned (codeV (checkS o)) ∧ Below w.heap.size w w' := by
  obtain ⟨kind, cal, a, b, c, n⟩ := o
  obtain ⟨-, ⟨hc0, -⟩, ⟨ha0, -⟩, ⟨hb0, -⟩, ⟨hcc0, -⟩, -⟩ := hw
  simp only at hc0 ha0 hb0 hcc0
  unfold encOp
  go_enter Tryz.func11, Tryz.ntmps11
  go_wp2_with fail
  refine (formOf_any _ _).mono ?_
  rintro e w1 ⟨rfl, hb1⟩
  have hblk := blk hb1 (block_new w _)
  have y0 : ∀ x, (w1.alloc x).cell? ⟨w.heap.size, 0, none⟩ = some (.int .u8 kind) := fun x => cell_of_block (block_alloc hblk) rfl
  have y1 : ∀ x, (w1.alloc x).cell? ⟨w.heap.size, 1, none⟩ = some (.int .u8 cal) := fun x => cell_of_block (block_alloc hblk) rfl
  have y2 : ∀ x, (w1.alloc x).cell? ⟨w.heap.size, 2, none⟩ = some (.int .u8 a) := fun x => cell_of_block (block_alloc hblk) rfl
  have y3 : ∀ x, (w1.alloc x).cell? ⟨w.heap.size, 3, none⟩ = some (.int .u8 b) := fun x => cell_of_block (block_alloc hblk) rfl
  have y4 : ∀ x, (w1.alloc x).cell? ⟨w.heap.size, 4, none⟩ = some (.int .u8 c) := fun x => cell_of_block (block_alloc hblk) rfl
  have y5 : ∀ x, (w1.alloc x).cell? ⟨w.heap.size, 5, none⟩ = some (.int .i64 n) := fun x => cell_of_block (block_alloc hblk) rfl
  have HB1 := hidI (bnextA (Below.refl _ _) hb1)
  have i0 : ∀ w, (Instr.index 77 (.agg #[.int .u8 a, .int .u8 b, .int .u8 c]) (.int .i64 0)).run Tryz.prog w = .ok (.int .u8 a) w := fun _ => by kernel_rfl
  have i1 : ∀ w, (Instr.index 77 (.agg #[.int .u8 a, .int .u8 b, .int .u8 c]) (.int .i64 1)).run Tryz.prog w = .ok (.int .u8 b) w := fun _ => by kernel_rfl
  have i2 : ∀ w, (Instr.index 77 (.agg #[.int .u8 a, .int .u8 b, .int .u8 c]) (.int .i64 2)).run Tryz.prog w = .ok (.int .u8 c) w := fun _ => by kernel_rfl
  clear hb1 hblk
  cases hf : formS kind with
  | none =>
    unfold formV
    have HF := hidI hf
    clear hf
    go_wp2_with fail
    go_ret
    exact ⟨by simp [checkS, HF.out, codeV], HB1.out.alloc HB1.out.size _⟩
  | some f =>
    have hfr := form_regs hf
    obtain ⟨fc, fr, fn, fl, fM⟩ := f
    have HF := hidI hf
    clear hf
    simp only at hfr
    unfold formV encFm
    by_cases hcal : cal = 0
    · subst hcal
      cases fc with
      | true =>
        go_wp2_with fail
        go_ret
        exact ⟨by simp [checkS, HF.out, codeV, *], HB1.out.alloc HB1.out.size _⟩
      | false =>
        rcases (by omega : fr = 0 ∨ fr = 1 ∨ fr = 2 ∨ fr = 3) with rfl | rfl | rfl | rfl
        · go_wp2_with fail
          go_loopw [35] (fun i wr => wr = w1.alloc (.cells #[.bool false, .int .i64 0, .bool fn, .int .i64 fl, .int .i64 fM] 64) ∧ (i = .int .i64 0 ∨ i = .int .i64 1 ∧ okReg 0 0 a = true ∨ i = .int .i64 2 ∧ okReg 0 0 a = true ∧ okReg 0 1 b = true ∨ i = .int .i64 3 ∧ okReg 0 0 a = true ∧ okReg 0 1 b = true ∧ okReg 0 2 c = true)) (fun i _ => (3 - intOf i).toNat)
          case atStart => exact ⟨rfl, .inl rfl⟩
          case round =>
            obtain ⟨rfl, rfl | ⟨rfl, g0⟩ | ⟨rfl, g0, g1⟩ | ⟨rfl, g0, g1, g2⟩⟩ := hrel
            · skip
              by_cases h : a = 0
              · have H : okReg 0 0 a = true := by simp [okReg, h]
                have h' : (a != 0) = false := by simp [h]
                have h'' : (a == 0) = true := by simp [h]
                clear h
                go_wp2_with fail
                exact ⟨⟨trivial, .inr (.inl ⟨rfl, H⟩)⟩, by simp [intOf]⟩
              · have HN : okReg 0 0 a = false := by simp [okReg, h]
                have h' : (a != 0) = true := by simp [h]
                have h'' : (a == 0) = false := by simp [h]
                clear h
                go_wp2_with fail
                go_ret
                exact ⟨by simp [checkS, HF.out, codeV, HN], HB1.out.alloc HB1.out.size _⟩
            · skip
              have G0 := hidI g0
              clear g0
              by_cases h : b = 0
              · have H : okReg 0 1 b = true := by simp [okReg, h]
                have h' : (b != 0) = false := by simp [h]
                have h'' : (b == 0) = true := by simp [h]
                clear h
                go_wp2_with fail
                exact ⟨⟨trivial, .inr (.inr (.inl ⟨rfl, G0.out, H⟩))⟩, by simp [intOf]⟩
              · have HN : okReg 0 1 b = false := by simp [okReg, h]
                have h' : (b != 0) = true := by simp [h]
                have h'' : (b == 0) = false := by simp [h]
                clear h
                go_wp2_with fail
                go_ret
                exact ⟨by simp [checkS, HF.out, codeV, HN], HB1.out.alloc HB1.out.size _⟩
            · skip
              have G0 := hidI g0
              have G1 := hidI g1
              clear g0 g1
              by_cases h : c = 0
              · have H : okReg 0 2 c = true := by simp [okReg, h]
                have h' : (c != 0) = false := by simp [h]
                have h'' : (c == 0) = true := by simp [h]
                clear h
                go_wp2_with fail
                exact ⟨⟨trivial, .inr (.inr (.inr (⟨rfl, G0.out, G1.out, H⟩)))⟩, by simp [intOf]⟩
              · have HN : okReg 0 2 c = false := by simp [okReg, h]
                have h' : (c != 0) = true := by simp [h]
                have h'' : (c == 0) = false := by simp [h]
                clear h
                go_wp2_with fail
                go_ret
                exact ⟨by simp [checkS, HF.out, codeV, HN], HB1.out.alloc HB1.out.size _⟩
            · skip
              have G0 := hidI g0
              have G1 := hidI g1
              have G2 := hidI g2
              clear g0 g1 g2
              cases fn with
              | true =>
                by_cases h1 : n < fl
                · go_wp2_with fail
                  go_ret
                  exact ⟨by simp [checkS, HF.out, codeV, okNum]; omega, HB1.out.alloc HB1.out.size _⟩
                by_cases h2 : n > fM
                · go_wp2_with fail
                  go_ret
                  exact ⟨by simp [checkS, HF.out, codeV, okNum]; omega, HB1.out.alloc HB1.out.size _⟩
                have h3 : fl ≤ n := by omega
                have h4 : n ≤ fM := by omega
                go_wp2_with fail
                go_ret
                exact ⟨by simp [checkS, HF.out, codeV, G0.out, G1.out, G2.out, okNum, *], HB1.out.alloc HB1.out.size _⟩
              | false =>
                by_cases h1 : n = 0
                · subst h1
                  go_wp2_with fail
                  go_ret
                  exact ⟨by simp [checkS, HF.out, codeV, G0.out, G1.out, G2.out, okNum, *], HB1.out.alloc HB1.out.size _⟩
                · have h2 : (n == 0) = false := by simp [h1]
                  have h3 : (n != 0) = true := by simp [h1]
                  go_wp2_with fail
                  go_ret
                  exact ⟨by simp [checkS, HF.out, codeV, okNum, h1], HB1.out.alloc HB1.out.size _⟩
        · go_wp2_with fail
          go_loopw [35] (fun i wr => wr = w1.alloc (.cells #[.bool false, .int .i64 1, .bool fn, .int .i64 fl, .int .i64 fM] 64) ∧ (i = .int .i64 0 ∨ i = .int .i64 1 ∧ okReg 1 0 a = true ∨ i = .int .i64 2 ∧ okReg 1 0 a = true ∧ okReg 1 1 b = true ∨ i = .int .i64 3 ∧ okReg 1 0 a = true ∧ okReg 1 1 b = true ∧ okReg 1 2 c = true)) (fun i _ => (3 - intOf i).toNat)
          case atStart => exact ⟨rfl, .inl rfl⟩
          case round =>
            obtain ⟨rfl, rfl | ⟨rfl, g0⟩ | ⟨rfl, g0, g1⟩ | ⟨rfl, g0, g1, g2⟩⟩ := hrel
            · skip
              by_cases h : a < 8
              · have h' : ¬ a ≥ 8 := by omega
                have H : okReg 1 0 a = true := by simp [okReg, h]
                clear h
                go_wp2_with fail
                exact ⟨⟨trivial, .inr (.inl ⟨rfl, H⟩)⟩, by simp [intOf]⟩
              · have h' : a ≥ 8 := by omega
                have HN : okReg 1 0 a = false := by simp [okReg]; omega
                clear h
                go_wp2_with fail
                go_ret
                exact ⟨by simp [checkS, HF.out, codeV, HN], HB1.out.alloc HB1.out.size _⟩
            · skip
              have G0 := hidI g0
              clear g0
              by_cases h : b = 0
              · have H : okReg 1 1 b = true := by simp [okReg, h]
                have h' : (b != 0) = false := by simp [h]
                have h'' : (b == 0) = true := by simp [h]
                clear h
                go_wp2_with fail
                exact ⟨⟨trivial, .inr (.inr (.inl ⟨rfl, G0.out, H⟩))⟩, by simp [intOf]⟩
              · have HN : okReg 1 1 b = false := by simp [okReg, h]
                have h' : (b != 0) = true := by simp [h]
                have h'' : (b == 0) = false := by simp [h]
                clear h
                go_wp2_with fail
                go_ret
                exact ⟨by simp [checkS, HF.out, codeV, HN], HB1.out.alloc HB1.out.size _⟩
            · skip
              have G0 := hidI g0
              have G1 := hidI g1
              clear g0 g1
              by_cases h : c = 0
              · have H : okReg 1 2 c = true := by simp [okReg, h]
                have h' : (c != 0) = false := by simp [h]
                have h'' : (c == 0) = true := by simp [h]
                clear h
                go_wp2_with fail
                exact ⟨⟨trivial, .inr (.inr (.inr (⟨rfl, G0.out, G1.out, H⟩)))⟩, by simp [intOf]⟩
              · have HN : okReg 1 2 c = false := by simp [okReg, h]
                have h' : (c != 0) = true := by simp [h]
                have h'' : (c == 0) = false := by simp [h]
                clear h
                go_wp2_with fail
                go_ret
                exact ⟨by simp [checkS, HF.out, codeV, HN], HB1.out.alloc HB1.out.size _⟩
            · skip
              have G0 := hidI g0
              have G1 := hidI g1
              have G2 := hidI g2
              clear g0 g1 g2
              cases fn with
              | true =>
                by_cases h1 : n < fl
                · go_wp2_with fail
                  go_ret
                  exact ⟨by simp [checkS, HF.out, codeV, okNum]; omega, HB1.out.alloc HB1.out.size _⟩
                by_cases h2 : n > fM
                · go_wp2_with fail
                  go_ret
                  exact ⟨by simp [checkS, HF.out, codeV, okNum]; omega, HB1.out.alloc HB1.out.size _⟩
                have h3 : fl ≤ n := by omega
                have h4 : n ≤ fM := by omega
                go_wp2_with fail
                go_ret
                exact ⟨by simp [checkS, HF.out, codeV, G0.out, G1.out, G2.out, okNum, *], HB1.out.alloc HB1.out.size _⟩
              | false =>
                by_cases h1 : n = 0
                · subst h1
                  go_wp2_with fail
                  go_ret
                  exact ⟨by simp [checkS, HF.out, codeV, G0.out, G1.out, G2.out, okNum, *], HB1.out.alloc HB1.out.size _⟩
                · have h2 : (n == 0) = false := by simp [h1]
                  have h3 : (n != 0) = true := by simp [h1]
                  go_wp2_with fail
                  go_ret
                  exact ⟨by simp [checkS, HF.out, codeV, okNum, h1], HB1.out.alloc HB1.out.size _⟩
        · go_wp2_with fail
          go_loopw [35] (fun i wr => wr = w1.alloc (.cells #[.bool false, .int .i64 2, .bool fn, .int .i64 fl, .int .i64 fM] 64) ∧ (i = .int .i64 0 ∨ i = .int .i64 1 ∧ okReg 2 0 a = true ∨ i = .int .i64 2 ∧ okReg 2 0 a = true ∧ okReg 2 1 b = true ∨ i = .int .i64 3 ∧ okReg 2 0 a = true ∧ okReg 2 1 b = true ∧ okReg 2 2 c = true)) (fun i _ => (3 - intOf i).toNat)
          case atStart => exact ⟨rfl, .inl rfl⟩
          case round =>
            obtain ⟨rfl, rfl | ⟨rfl, g0⟩ | ⟨rfl, g0, g1⟩ | ⟨rfl, g0, g1, g2⟩⟩ := hrel
            · skip
              by_cases h : a < 8
              · have h' : ¬ a ≥ 8 := by omega
                have H : okReg 2 0 a = true := by simp [okReg, h]
                clear h
                go_wp2_with fail
                exact ⟨⟨trivial, .inr (.inl ⟨rfl, H⟩)⟩, by simp [intOf]⟩
              · have h' : a ≥ 8 := by omega
                have HN : okReg 2 0 a = false := by simp [okReg]; omega
                clear h
                go_wp2_with fail
                go_ret
                exact ⟨by simp [checkS, HF.out, codeV, HN], HB1.out.alloc HB1.out.size _⟩
            · skip
              have G0 := hidI g0
              clear g0
              by_cases h : b < 8
              · have h' : ¬ b ≥ 8 := by omega
                have H : okReg 2 1 b = true := by simp [okReg, h]
                clear h
                go_wp2_with fail
                exact ⟨⟨trivial, .inr (.inr (.inl ⟨rfl, G0.out, H⟩))⟩, by simp [intOf]⟩
              · have h' : b ≥ 8 := by omega
                have HN : okReg 2 1 b = false := by simp [okReg]; omega
                clear h
                go_wp2_with fail
                go_ret
                exact ⟨by simp [checkS, HF.out, codeV, HN], HB1.out.alloc HB1.out.size _⟩
            · skip
              have G0 := hidI g0
              have G1 := hidI g1
              clear g0 g1
              by_cases h : c = 0
              · have H : okReg 2 2 c = true := by simp [okReg, h]
                have h' : (c != 0) = false := by simp [h]
                have h'' : (c == 0) = true := by simp [h]
                clear h
                go_wp2_with fail
                exact ⟨⟨trivial, .inr (.inr (.inr (⟨rfl, G0.out, G1.out, H⟩)))⟩, by simp [intOf]⟩
              · have HN : okReg 2 2 c = false := by simp [okReg, h]
                have h' : (c != 0) = true := by simp [h]
                have h'' : (c == 0) = false := by simp [h]
                clear h
                go_wp2_with fail
                go_ret
                exact ⟨by simp [checkS, HF.out, codeV, HN], HB1.out.alloc HB1.out.size _⟩
            · skip
              have G0 := hidI g0
              have G1 := hidI g1
              have G2 := hidI g2
              clear g0 g1 g2
              cases fn with
              | true =>
                by_cases h1 : n < fl
                · go_wp2_with fail
                  go_ret
                  exact ⟨by simp [checkS, HF.out, codeV, okNum]; omega, HB1.out.alloc HB1.out.size _⟩
                by_cases h2 : n > fM
                · go_wp2_with fail
                  go_ret
                  exact ⟨by simp [checkS, HF.out, codeV, okNum]; omega, HB1.out.alloc HB1.out.size _⟩
                have h3 : fl ≤ n := by omega
                have h4 : n ≤ fM := by omega
                go_wp2_with fail
                go_ret
                exact ⟨by simp [checkS, HF.out, codeV, G0.out, G1.out, G2.out, okNum, *], HB1.out.alloc HB1.out.size _⟩
              | false =>
                by_cases h1 : n = 0
                · subst h1
                  go_wp2_with fail
                  go_ret
                  exact ⟨by simp [checkS, HF.out, codeV, G0.out, G1.out, G2.out, okNum, *], HB1.out.alloc HB1.out.size _⟩
                · have h2 : (n == 0) = false := by simp [h1]
                  have h3 : (n != 0) = true := by simp [h1]
                  go_wp2_with fail
                  go_ret
                  exact ⟨by simp [checkS, HF.out, codeV, okNum, h1], HB1.out.alloc HB1.out.size _⟩
        · go_wp2_with fail
          go_loopw [35] (fun i wr => wr = w1.alloc (.cells #[.bool false, .int .i64 3, .bool fn, .int .i64 fl, .int .i64 fM] 64) ∧ (i = .int .i64 0 ∨ i = .int .i64 1 ∧ okReg 3 0 a = true ∨ i = .int .i64 2 ∧ okReg 3 0 a = true ∧ okReg 3 1 b = true ∨ i = .int .i64 3 ∧ okReg 3 0 a = true ∧ okReg 3 1 b = true ∧ okReg 3 2 c = true)) (fun i _ => (3 - intOf i).toNat)
          case atStart => exact ⟨rfl, .inl rfl⟩
          case round =>
            obtain ⟨rfl, rfl | ⟨rfl, g0⟩ | ⟨rfl, g0, g1⟩ | ⟨rfl, g0, g1, g2⟩⟩ := hrel
            · skip
              by_cases h : a < 8
              · have h' : ¬ a ≥ 8 := by omega
                have H : okReg 3 0 a = true := by simp [okReg, h]
                clear h
                go_wp2_with fail
                exact ⟨⟨trivial, .inr (.inl ⟨rfl, H⟩)⟩, by simp [intOf]⟩
              · have h' : a ≥ 8 := by omega
                have HN : okReg 3 0 a = false := by simp [okReg]; omega
                clear h
                go_wp2_with fail
                go_ret
                exact ⟨by simp [checkS, HF.out, codeV, HN], HB1.out.alloc HB1.out.size _⟩
            · skip
              have G0 := hidI g0
              clear g0
              by_cases h : b < 8
              · have h' : ¬ b ≥ 8 := by omega
                have H : okReg 3 1 b = true := by simp [okReg, h]
                clear h
                go_wp2_with fail
                exact ⟨⟨trivial, .inr (.inr (.inl ⟨rfl, G0.out, H⟩))⟩, by simp [intOf]⟩
              · have h' : b ≥ 8 := by omega
                have HN : okReg 3 1 b = false := by simp [okReg]; omega
                clear h
                go_wp2_with fail
                go_ret
                exact ⟨by simp [checkS, HF.out, codeV, HN], HB1.out.alloc HB1.out.size _⟩
            · skip
              have G0 := hidI g0
              have G1 := hidI g1
              clear g0 g1
              by_cases h : c < 8
              · have h' : ¬ c ≥ 8 := by omega
                have H : okReg 3 2 c = true := by simp [okReg, h]
                clear h
                go_wp2_with fail
                exact ⟨⟨trivial, .inr (.inr (.inr (⟨rfl, G0.out, G1.out, H⟩)))⟩, by simp [intOf]⟩
              · have h' : c ≥ 8 := by omega
                have HN : okReg 3 2 c = false := by simp [okReg]; omega
                clear h
                go_wp2_with fail
                go_ret
                exact ⟨by simp [checkS, HF.out, codeV, HN], HB1.out.alloc HB1.out.size _⟩
            · skip
              have G0 := hidI g0
              have G1 := hidI g1
              have G2 := hidI g2
              clear g0 g1 g2
              cases fn with
              | true =>
                by_cases h1 : n < fl
                · go_wp2_with fail
                  go_ret
                  exact ⟨by simp [checkS, HF.out, codeV, okNum]; omega, HB1.out.alloc HB1.out.size _⟩
                by_cases h2 : n > fM
                · go_wp2_with fail
                  go_ret
                  exact ⟨by simp [checkS, HF.out, codeV, okNum]; omega, HB1.out.alloc HB1.out.size _⟩
                have h3 : fl ≤ n := by omega
                have h4 : n ≤ fM := by omega
                go_wp2_with fail
                go_ret
                exact ⟨by simp [checkS, HF.out, codeV, G0.out, G1.out, G2.out, okNum, *], HB1.out.alloc HB1.out.size _⟩
              | false =>
                by_cases h1 : n = 0
                · subst h1
                  go_wp2_with fail
                  go_ret
                  exact ⟨by simp [checkS, HF.out, codeV, G0.out, G1.out, G2.out, okNum, *], HB1.out.alloc HB1.out.size _⟩
                · have h2 : (n == 0) = false := by simp [h1]
                  have h3 : (n != 0) = true := by simp [h1]
                  go_wp2_with fail
                  go_ret
                  exact ⟨by simp [checkS, HF.out, codeV, okNum, h1], HB1.out.alloc HB1.out.size _⟩
    · have e1 : (cal == 0) = false := by simp [hcal]
      have e2 : (cal != 0) = true := by simp [hcal]
      cases fc with
      | false =>
        go_wp2_with fail
        go_ret
        exact ⟨by simp [checkS, HF.out, codeV, *], HB1.out.alloc HB1.out.size _⟩
      | true =>
        by_cases h14 : cal > 14
        · go_wp2_with fail
          go_ret
          exact ⟨by simp [checkS, HF.out, codeV]; omega, HB1.out.alloc HB1.out.size _⟩
        have h15 : cal ≤ 14 := by omega
        rcases (by omega : fr = 0 ∨ fr = 1 ∨ fr = 2 ∨ fr = 3) with rfl | rfl | rfl | rfl
        · go_wp2_with fail
          go_loopw [35] (fun i wr => wr = w1.alloc (.cells #[.bool true, .int .i64 0, .bool fn, .int .i64 fl, .int .i64 fM] 64) ∧ (i = .int .i64 0 ∨ i = .int .i64 1 ∧ okReg 0 0 a = true ∨ i = .int .i64 2 ∧ okReg 0 0 a = true ∧ okReg 0 1 b = true ∨ i = .int .i64 3 ∧ okReg 0 0 a = true ∧ okReg 0 1 b = true ∧ okReg 0 2 c = true)) (fun i _ => (3 - intOf i).toNat)
          case atStart => exact ⟨rfl, .inl rfl⟩
          case round =>
            obtain ⟨rfl, rfl | ⟨rfl, g0⟩ | ⟨rfl, g0, g1⟩ | ⟨rfl, g0, g1, g2⟩⟩ := hrel
            · skip
              by_cases h : a = 0
              · have H : okReg 0 0 a = true := by simp [okReg, h]
                have h' : (a != 0) = false := by simp [h]
                have h'' : (a == 0) = true := by simp [h]
                clear h
                go_wp2_with fail
                exact ⟨⟨trivial, .inr (.inl ⟨rfl, H⟩)⟩, by simp [intOf]⟩
              · have HN : okReg 0 0 a = false := by simp [okReg, h]
                have h' : (a != 0) = true := by simp [h]
                have h'' : (a == 0) = false := by simp [h]
                clear h
                go_wp2_with fail
                go_ret
                exact ⟨by simp [checkS, HF.out, codeV, HN], HB1.out.alloc HB1.out.size _⟩
            · skip
              have G0 := hidI g0
              clear g0
              by_cases h : b = 0
              · have H : okReg 0 1 b = true := by simp [okReg, h]
                have h' : (b != 0) = false := by simp [h]
                have h'' : (b == 0) = true := by simp [h]
                clear h
                go_wp2_with fail
                exact ⟨⟨trivial, .inr (.inr (.inl ⟨rfl, G0.out, H⟩))⟩, by simp [intOf]⟩
              · have HN : okReg 0 1 b = false := by simp [okReg, h]
                have h' : (b != 0) = true := by simp [h]
                have h'' : (b == 0) = false := by simp [h]
                clear h
                go_wp2_with fail
                go_ret
                exact ⟨by simp [checkS, HF.out, codeV, HN], HB1.out.alloc HB1.out.size _⟩
            · skip
              have G0 := hidI g0
              have G1 := hidI g1
              clear g0 g1
              by_cases h : c = 0
              · have H : okReg 0 2 c = true := by simp [okReg, h]
                have h' : (c != 0) = false := by simp [h]
                have h'' : (c == 0) = true := by simp [h]
                clear h
                go_wp2_with fail
                exact ⟨⟨trivial, .inr (.inr (.inr (⟨rfl, G0.out, G1.out, H⟩)))⟩, by simp [intOf]⟩
              · have HN : okReg 0 2 c = false := by simp [okReg, h]
                have h' : (c != 0) = true := by simp [h]
                have h'' : (c == 0) = false := by simp [h]
                clear h
                go_wp2_with fail
                go_ret
                exact ⟨by simp [checkS, HF.out, codeV, HN], HB1.out.alloc HB1.out.size _⟩
            · skip
              have G0 := hidI g0
              have G1 := hidI g1
              have G2 := hidI g2
              clear g0 g1 g2
              cases fn with
              | true =>
                by_cases h1 : n < fl
                · go_wp2_with fail
                  go_ret
                  exact ⟨by simp [checkS, HF.out, codeV, okNum]; omega, HB1.out.alloc HB1.out.size _⟩
                by_cases h2 : n > fM
                · go_wp2_with fail
                  go_ret
                  exact ⟨by simp [checkS, HF.out, codeV, okNum]; omega, HB1.out.alloc HB1.out.size _⟩
                have h3 : fl ≤ n := by omega
                have h4 : n ≤ fM := by omega
                go_wp2_with fail
                go_ret
                exact ⟨by simp [checkS, HF.out, codeV, G0.out, G1.out, G2.out, okNum, *], HB1.out.alloc HB1.out.size _⟩
              | false =>
                by_cases h1 : n = 0
                · subst h1
                  go_wp2_with fail
                  go_ret
                  exact ⟨by simp [checkS, HF.out, codeV, G0.out, G1.out, G2.out, okNum, *], HB1.out.alloc HB1.out.size _⟩
                · have h2 : (n == 0) = false := by simp [h1]
                  have h3 : (n != 0) = true := by simp [h1]
                  go_wp2_with fail
                  go_ret
                  exact ⟨by simp [checkS, HF.out, codeV, okNum, h1], HB1.out.alloc HB1.out.size _⟩
        · go_wp2_with fail
          go_loopw [35] (fun i wr => wr = w1.alloc (.cells #[.bool true, .int .i64 1, .bool fn, .int .i64 fl, .int .i64 fM] 64) ∧ (i = .int .i64 0 ∨ i = .int .i64 1 ∧ okReg 1 0 a = true ∨ i = .int .i64 2 ∧ okReg 1 0 a = true ∧ okReg 1 1 b = true ∨ i = .int .i64 3 ∧ okReg 1 0 a = true ∧ okReg 1 1 b = true ∧ okReg 1 2 c = true)) (fun i _ => (3 - intOf i).toNat)
          case atStart => exact ⟨rfl, .inl rfl⟩
          case round =>
            obtain ⟨rfl, rfl | ⟨rfl, g0⟩ | ⟨rfl, g0, g1⟩ | ⟨rfl, g0, g1, g2⟩⟩ := hrel
            · skip
              by_cases h : a < 8
              · have h' : ¬ a ≥ 8 := by omega
                have H : okReg 1 0 a = true := by simp [okReg, h]
                clear h
                go_wp2_with fail
                exact ⟨⟨trivial, .inr (.inl ⟨rfl, H⟩)⟩, by simp [intOf]⟩
              · have h' : a ≥ 8 := by omega
                have HN : okReg 1 0 a = false := by simp [okReg]; omega
                clear h
                go_wp2_with fail
                go_ret
                exact ⟨by simp [checkS, HF.out, codeV, HN], HB1.out.alloc HB1.out.size _⟩
            · skip
              have G0 := hidI g0
              clear g0
              by_cases h : b = 0
              · have H : okReg 1 1 b = true := by simp [okReg, h]
                have h' : (b != 0) = false := by simp [h]
                have h'' : (b == 0) = true := by simp [h]
                clear h
                go_wp2_with fail
                exact ⟨⟨trivial, .inr (.inr (.inl ⟨rfl, G0.out, H⟩))⟩, by simp [intOf]⟩
              · have HN : okReg 1 1 b = false := by simp [okReg, h]
                have h' : (b != 0) = true := by simp [h]
                have h'' : (b == 0) = false := by simp [h]
                clear h
                go_wp2_with fail
                go_ret
                exact ⟨by simp [checkS, HF.out, codeV, HN], HB1.out.alloc HB1.out.size _⟩
            · skip
              have G0 := hidI g0
              have G1 := hidI g1
              clear g0 g1
              by_cases h : c = 0
              · have H : okReg 1 2 c = true := by simp [okReg, h]
                have h' : (c != 0) = false := by simp [h]
                have h'' : (c == 0) = true := by simp [h]
                clear h
                go_wp2_with fail
                exact ⟨⟨trivial, .inr (.inr (.inr (⟨rfl, G0.out, G1.out, H⟩)))⟩, by simp [intOf]⟩
              · have HN : okReg 1 2 c = false := by simp [okReg, h]
                have h' : (c != 0) = true := by simp [h]
                have h'' : (c == 0) = false := by simp [h]
                clear h
                go_wp2_with fail
                go_ret
                exact ⟨by simp [checkS, HF.out, codeV, HN], HB1.out.alloc HB1.out.size _⟩
            · skip
              have G0 := hidI g0
              have G1 := hidI g1
              have G2 := hidI g2
              clear g0 g1 g2
              cases fn with
              | true =>
                by_cases h1 : n < fl
                · go_wp2_with fail
                  go_ret
                  exact ⟨by simp [checkS, HF.out, codeV, okNum]; omega, HB1.out.alloc HB1.out.size _⟩
                by_cases h2 : n > fM
                · go_wp2_with fail
                  go_ret
                  exact ⟨by simp [checkS, HF.out, codeV, okNum]; omega, HB1.out.alloc HB1.out.size _⟩
                have h3 : fl ≤ n := by omega
                have h4 : n ≤ fM := by omega
                go_wp2_with fail
                go_ret
                exact ⟨by simp [checkS, HF.out, codeV, G0.out, G1.out, G2.out, okNum, *], HB1.out.alloc HB1.out.size _⟩
              | false =>
                by_cases h1 : n = 0
                · subst h1
                  go_wp2_with fail
                  go_ret
                  exact ⟨by simp [checkS, HF.out, codeV, G0.out, G1.out, G2.out, okNum, *], HB1.out.alloc HB1.out.size _⟩
                · have h2 : (n == 0) = false := by simp [h1]
                  have h3 : (n != 0) = true := by simp [h1]
                  go_wp2_with fail
                  go_ret
                  exact ⟨by simp [checkS, HF.out, codeV, okNum, h1], HB1.out.alloc HB1.out.size _⟩
        · go_wp2_with fail
          go_loopw [35] (fun i wr => wr = w1.alloc (.cells #[.bool true, .int .i64 2, .bool fn, .int .i64 fl, .int .i64 fM] 64) ∧ (i = .int .i64 0 ∨ i = .int .i64 1 ∧ okReg 2 0 a = true ∨ i = .int .i64 2 ∧ okReg 2 0 a = true ∧ okReg 2 1 b = true ∨ i = .int .i64 3 ∧ okReg 2 0 a = true ∧ okReg 2 1 b = true ∧ okReg 2 2 c = true)) (fun i _ => (3 - intOf i).toNat)
          case atStart => exact ⟨rfl, .inl rfl⟩
          case round =>
            obtain ⟨rfl, rfl | ⟨rfl, g0⟩ | ⟨rfl, g0, g1⟩ | ⟨rfl, g0, g1, g2⟩⟩ := hrel
            · skip
              by_cases h : a < 8
              · have h' : ¬ a ≥ 8 := by omega
                have H : okReg 2 0 a = true := by simp [okReg, h]
                clear h
                go_wp2_with fail
                exact ⟨⟨trivial, .inr (.inl ⟨rfl, H⟩)⟩, by simp [intOf]⟩
              · have h' : a ≥ 8 := by omega
                have HN : okReg 2 0 a = false := by simp [okReg]; omega
                clear h
                go_wp2_with fail
                go_ret
                exact ⟨by simp [checkS, HF.out, codeV, HN], HB1.out.alloc HB1.out.size _⟩
            · skip
              have G0 := hidI g0
              clear g0
              by_cases h : b < 8
              · have h' : ¬ b ≥ 8 := by omega
                have H : okReg 2 1 b = true := by simp [okReg, h]
                clear h
                go_wp2_with fail
                exact ⟨⟨trivial, .inr (.inr (.inl ⟨rfl, G0.out, H⟩))⟩, by simp [intOf]⟩
              · have h' : b ≥ 8 := by omega
                have HN : okReg 2 1 b = false := by simp [okReg]; omega
                clear h
                go_wp2_with fail
                go_ret
                exact ⟨by simp [checkS, HF.out, codeV, HN], HB1.out.alloc HB1.out.size _⟩
            · skip
              have G0 := hidI g0
              have G1 := hidI g1
              clear g0 g1
              by_cases h : c = 0
              · have H : okReg 2 2 c = true := by simp [okReg, h]
                have h' : (c != 0) = false := by simp [h]
                have h'' : (c == 0) = true := by simp [h]
                clear h
                go_wp2_with fail
                exact ⟨⟨trivial, .inr (.inr (.inr (⟨rfl, G0.out, G1.out, H⟩)))⟩, by simp [intOf]⟩
              · have HN : okReg 2 2 c = false := by simp [okReg, h]
                have h' : (c != 0) = true := by simp [h]
                have h'' : (c == 0) = false := by simp [h]
                clear h
                go_wp2_with fail
                go_ret
                exact ⟨by simp [checkS, HF.out, codeV, HN], HB1.out.alloc HB1.out.size _⟩
            · skip
              have G0 := hidI g0
              have G1 := hidI g1
              have G2 := hidI g2
              clear g0 g1 g2
              cases fn with
              | true =>
                by_cases h1 : n < fl
                · go_wp2_with fail
                  go_ret
                  exact ⟨by simp [checkS, HF.out, codeV, okNum]; omega, HB1.out.alloc HB1.out.size _⟩
                by_cases h2 : n > fM
                · go_wp2_with fail
                  go_ret
                  exact ⟨by simp [checkS, HF.out, codeV, okNum]; omega, HB1.out.alloc HB1.out.size _⟩
                have h3 : fl ≤ n := by omega
                have h4 : n ≤ fM := by omega
                go_wp2_with fail
                go_ret
                exact ⟨by simp [checkS, HF.out, codeV, G0.out, G1.out, G2.out, okNum, *], HB1.out.alloc HB1.out.size _⟩
              | false =>
                by_cases h1 : n = 0
                · subst h1
                  go_wp2_with fail
                  go_ret
                  exact ⟨by simp [checkS, HF.out, codeV, G0.out, G1.out, G2.out, okNum, *], HB1.out.alloc HB1.out.size _⟩
                · have h2 : (n == 0) = false := by simp [h1]
                  have h3 : (n != 0) = true := by simp [h1]
                  go_wp2_with fail
                  go_ret
                  exact ⟨by simp [checkS, HF.out, codeV, okNum, h1], HB1.out.alloc HB1.out.size _⟩
        · go_wp2_with fail
          go_loopw [35] (fun i wr => wr = w1.alloc (.cells #[.bool true, .int .i64 3, .bool fn, .int .i64 fl, .int .i64 fM] 64) ∧ (i = .int .i64 0 ∨ i = .int .i64 1 ∧ okReg 3 0 a = true ∨ i = .int .i64 2 ∧ okReg 3 0 a = true ∧ okReg 3 1 b = true ∨ i = .int .i64 3 ∧ okReg 3 0 a = true ∧ okReg 3 1 b = true ∧ okReg 3 2 c = true)) (fun i _ => (3 - intOf i).toNat)
          case atStart => exact ⟨rfl, .inl rfl⟩
          case round =>
            obtain ⟨rfl, rfl | ⟨rfl, g0⟩ | ⟨rfl, g0, g1⟩ | ⟨rfl, g0, g1, g2⟩⟩ := hrel
            · skip
              by_cases h : a < 8
              · have h' : ¬ a ≥ 8 := by omega
                have H : okReg 3 0 a = true := by simp [okReg, h]
                clear h
                go_wp2_with fail
                exact ⟨⟨trivial, .inr (.inl ⟨rfl, H⟩)⟩, by simp [intOf]⟩
              · have h' : a ≥ 8 := by omega
                have HN : okReg 3 0 a = false := by simp [okReg]; omega
                clear h
                go_wp2_with fail
                go_ret
                exact ⟨by simp [checkS, HF.out, codeV, HN], HB1.out.alloc HB1.out.size _⟩
            · skip
              have G0 := hidI g0
              clear g0
              by_cases h : b < 8
              · have h' : ¬ b ≥ 8 := by omega
                have H : okReg 3 1 b = true := by simp [okReg, h]
                clear h
                go_wp2_with fail
                exact ⟨⟨trivial, .inr (.inr (.inl ⟨rfl, G0.out, H⟩))⟩, by simp [intOf]⟩
              · have h' : b ≥ 8 := by omega
                have HN : okReg 3 1 b = false := by simp [okReg]; omega
                clear h
                go_wp2_with fail
                go_ret
                exact ⟨by simp [checkS, HF.out, codeV, HN], HB1.out.alloc HB1.out.size _⟩
            · skip
              have G0 := hidI g0
              have G1 := hidI g1
              clear g0 g1
              by_cases h : c < 8
              · have h' : ¬ c ≥ 8 := by omega
                have H : okReg 3 2 c = true := by simp [okReg, h]
                clear h
                go_wp2_with fail
                exact ⟨⟨trivial, .inr (.inr (.inr (⟨rfl, G0.out, G1.out, H⟩)))⟩, by simp [intOf]⟩
              · have h' : c ≥ 8 := by omega
                have HN : okReg 3 2 c = false := by simp [okReg]; omega
                clear h
                go_wp2_with fail
                go_ret
                exact ⟨by simp [checkS, HF.out, codeV, HN], HB1.out.alloc HB1.out.size _⟩
            · skip
              have G0 := hidI g0
              have G1 := hidI g1
              have G2 := hidI g2
              clear g0 g1 g2
              cases fn with
              | true =>
                by_cases h1 : n < fl
                · go_wp2_with fail
                  go_ret
                  exact ⟨by simp [checkS, HF.out, codeV, okNum]; omega, HB1.out.alloc HB1.out.size _⟩
                by_cases h2 : n > fM
                · go_wp2_with fail
                  go_ret
                  exact ⟨by simp [checkS, HF.out, codeV, okNum]; omega, HB1.out.alloc HB1.out.size _⟩
                have h3 : fl ≤ n := by omega
                have h4 : n ≤ fM := by omega
                go_wp2_with fail
                go_ret
                exact ⟨by simp [checkS, HF.out, codeV, G0.out, G1.out, G2.out, okNum, *], HB1.out.alloc HB1.out.size _⟩
              | false =>
                by_cases h1 : n = 0
                · subst h1
                  go_wp2_with fail
                  go_ret
                  exact ⟨by simp [checkS, HF.out, codeV, G0.out, G1.out, G2.out, okNum, *], HB1.out.alloc HB1.out.size _⟩
                · have h2 : (n == 0) = false := by simp [h1]
                  have h3 : (n != 0) = true := by simp [h1]
                  go_wp2_with fail
                  go_ret
                  exact ⟨by simp [checkS, HF.out, codeV, okNum, h1], HB1.out.alloc HB1.out.size _⟩
end Go.Proofs.YtbfghkhfiflibaaGreatDoor

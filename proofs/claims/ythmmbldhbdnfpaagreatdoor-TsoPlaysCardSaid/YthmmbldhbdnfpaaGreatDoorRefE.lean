/- The document's machine: do, instruction by instruction. (Written by mkrefe.py.) -/
import Derived.Test.YthmmbldhbdnfpaaGreatDoorMRefA
import Derived.Test.YthmmbldhbdnfpaaGreatDoorRefC
import Derived.Test.YthmmbldhbdnfpaaGreatDoorTsoE
import Derived.Test.YthmmbldhbdnfpaaGreatDoorMBase
import Derived.Deep.RegionHeld3
namespace Go.Proofs.YthmmbldhbdnfpaaGreatDoor
open Go.RowKit
set_option linter.unusedVariables false
set_option linter.unusedSimpArgs false

variable {w w' : World} {base b : Nat} {own own' : Nat → Nat} {mm : MM} {xs : List RX} {mv tv ev : Value} {tb cap n : Nat} {x : RX}

theorem RGoes.at_e {w1 : World} {own1 : Nat → Nat} {mm1 mm' : MM} {xs1 : List RX} {mv1 ev1 : Value} {y : RX} {nx : Int} (h : RAt w1 base b own1 mm1 xs1 mv1 (.slice (some ⟨tb, 0, none⟩) xs1.length cap) ev1) (hy : xs1[n]? = some y)
    (ho : ∀ k, k < w.heap.size → own1 k = own k) (hc : Chg (fun k => own k ≠ 0) w w1) (he : mm1.put n { y.th with at_ := nx } = mm') : RGoes w base b own mm' (w1.setCell ⟨tb, n * 13 + 9, none⟩ (.int .i64 nx)) := by
  rw [← he]
  exact RGoes.at_ h hy ho hc
/-- new memory first, then a change -/
theorem RGoes.after {w1 : World} {mm' : MM} (hb : Below w.heap.size w w1) (h : RGoes w1 base b own mm' w') (hf : ∀ k, w.heap.size ≤ k → own k = 0) : RGoes w base b own mm' w' := by
  obtain ⟨⟨own', xs, mv, tv, ev, hm, ho⟩, hc⟩ := h
  exact ⟨⟨own', xs, mv, tv, ev, hm, fun k hk => ho k (Nat.lt_of_lt_of_le hk hb.size)⟩, Chg.then_ (Chg.of_below hb) hc (fun k _ e => e)⟩
theorem Chg.cell {T : Nat → Prop} {a c : World} {p : Addr} {v : Value} (h : Chg T a c) (hv : a.cell? p = some v) (hn : ¬ T p.block) : c.cell? p = some v := (World.cell?_of_block (h.block _ (World.block_lt_of_cell? _ _ hv) hn)).trans hv
theorem cellInfoR : (Tryz.prog.info? 105).map (fun i => (i.zero, i.size, i.bytes)) = some (some (.agg #[.int .i64 0, .int .i64 0]), 2, 16) := by kernel_rfl
theorem one_ceR (p : Int × Int) : ∀ u ∈ encCell p, u.oneCell' = true := by
  intro u hu
  simp [encCell] at hu
  rcases hu with rfl | rfl <;> rfl
theorem RGoes.imp_drew {mm' : MM} (h : RGoes w base b own mm' w') : RGoes w base b own mm' w'.drew := by
  obtain ⟨⟨own', xs, mv, tv, ev, hm, ho⟩, hc⟩ := h
  exact ⟨⟨own', xs, mv, tv, ev, hm.drew, ho⟩, hc.drew⟩

set_option maxRecDepth 100000 in
set_option maxHeartbeats 2000000 in
theorem rdo_set (h : RAt w base b own mm xs mv (.slice (some ⟨tb, 0, none⟩) xs.length cap) ev) (hx : xs[n]? = some x) {cal num : Int} {ra rb rc : Nat} (hra : ra < 8) (hrb : rb < 8) (hrc : rc < 8) (hat : 0 ≤ x.th.at_ ∧ x.th.at_ ≤ 262144) (a : Int) :
    Calls Tryz.prog 57 #[.pointer (some ⟨b, 0, none⟩), .int .i64 (n : Int), .pointer (some ⟨tb, n * 13, none⟩), .agg #[.int .u8 1, .int .u8 cal, .int .u8 (ra : Int), .int .u8 (rb : Int), .int .u8 (rc : Int), .int .i64 num], .int .i64 a] w fun r w' => r = .returned (.tuple #[]) ∧ RGoes w base b own (mm.act n x.th ⟨1, cal, ra, rb, rc, num⟩ a) w' := by
  have hb0 : Below w.heap.size w (w.alloc (.cells #[.int .u8 1, .int .u8 cal, .int .u8 (ra : Int), .int .u8 (rb : Int), .int .u8 (rc : Int), .int .i64 num] 44)) := (Below.refl _ _).alloc (Nat.le_refl _) _
  have h0 := h.below hb0
  have hbox := block_new w (.cells #[.int .u8 1, .int .u8 cal, .int .u8 (ra : Int), .int .u8 (rb : Int), .int .u8 (rc : Int), .int .i64 num] 44)
  have d0 : ((w.alloc (.cells #[.int .u8 1, .int .u8 cal, .int .u8 (ra : Int), .int .u8 (rb : Int), .int .u8 (rc : Int), .int .i64 num] 44))).cell? ⟨w.heap.size, 0, none⟩ = some (.int .u8 1) := cell_of_block hbox rfl
  have d1 : ((w.alloc (.cells #[.int .u8 1, .int .u8 cal, .int .u8 (ra : Int), .int .u8 (rb : Int), .int .u8 (rc : Int), .int .i64 num] 44))).cell? ⟨w.heap.size, 1, none⟩ = some (.int .u8 cal) := cell_of_block hbox rfl
  have d2 : ((w.alloc (.cells #[.int .u8 1, .int .u8 cal, .int .u8 (ra : Int), .int .u8 (rb : Int), .int .u8 (rc : Int), .int .i64 num] 44))).cell? ⟨w.heap.size, 2, none⟩ = some (.int .u8 (ra : Int)) := cell_of_block hbox rfl
  have d3 : ((w.alloc (.cells #[.int .u8 1, .int .u8 cal, .int .u8 (ra : Int), .int .u8 (rb : Int), .int .u8 (rc : Int), .int .i64 num] 44))).cell? ⟨w.heap.size, 3, none⟩ = some (.int .u8 (rb : Int)) := cell_of_block hbox rfl
  have d4 : ((w.alloc (.cells #[.int .u8 1, .int .u8 cal, .int .u8 (ra : Int), .int .u8 (rb : Int), .int .u8 (rc : Int), .int .i64 num] 44))).cell? ⟨w.heap.size, 4, none⟩ = some (.int .u8 (rc : Int)) := cell_of_block hbox rfl
  have d5 : ((w.alloc (.cells #[.int .u8 1, .int .u8 cal, .int .u8 (ra : Int), .int .u8 (rb : Int), .int .u8 (rc : Int), .int .i64 num] 44))).cell? ⟨w.heap.size, 5, none⟩ = some (.int .i64 num) := cell_of_block hbox rfl
  have rA : ((w.alloc (.cells #[.int .u8 1, .int .u8 cal, .int .u8 (ra : Int), .int .u8 (rb : Int), .int .u8 (rc : Int), .int .i64 num] 44))).cell? ⟨tb, n * 13 + 1 + ra, none⟩ = some (.int .i64 (x.th.reg ra)) := by rw [Nat.add_assoc]; exact h0.cell hx _ _ (encR_reg x ra hra)
  have rB : ((w.alloc (.cells #[.int .u8 1, .int .u8 cal, .int .u8 (ra : Int), .int .u8 (rb : Int), .int .u8 (rc : Int), .int .i64 num] 44))).cell? ⟨tb, n * 13 + 1 + rb, none⟩ = some (.int .i64 (x.th.reg rb)) := by rw [Nat.add_assoc]; exact h0.cell hx _ _ (encR_reg x rb hrb)
  have rC : ((w.alloc (.cells #[.int .u8 1, .int .u8 cal, .int .u8 (ra : Int), .int .u8 (rb : Int), .int .u8 (rc : Int), .int .i64 num] 44))).cell? ⟨tb, n * 13 + 1 + rc, none⟩ = some (.int .i64 (x.th.reg rc)) := by rw [Nat.add_assoc]; exact h0.cell hx _ _ (encR_reg x rc hrc)
  have cAt : ((w.alloc (.cells #[.int .u8 1, .int .u8 cal, .int .u8 (ra : Int), .int .u8 (rb : Int), .int .u8 (rc : Int), .int .i64 num] 44))).cell? ⟨tb, n * 13 + 9, none⟩ = some (.int .i64 x.th.at_) := h0.cell hx 9 _ rfl
  have hws : w.heap.size < (w.alloc (.cells #[.int .u8 1, .int .u8 cal, .int .u8 (ra : Int), .int .u8 (rb : Int), .int .u8 (rc : Int), .int .i64 num] 44)).heap.size := by simp
  have hAi : (ra : Int) < 8 := by omega
  have hBi : (rb : Int) < 8 := by omega
  have hCi : (rc : Int) < 8 := by omega
  have hn : n < xs.length := (List.getElem?_eq_some_iff.1 hx).1
  have fT := h0.free (tb := tb) (by omega : 0 < xs.length)
  have fA := fT (n * 13 + 1 + ra)
  have fB := fT (n * 13 + 1 + rb)
  have f9 := fT (n * 13 + 9)
  have hw1 : IntKind.i64.wrap (x.th.at_ + 1) = x.th.at_ + 1 := IntWalk.i64_in _ (by omega)
  have hsz : ¬ w.heap.size = tb := by have := (rowLt h.ths (g := tb) rfl).2; omega
  have HX := hidI hx
  have H := hidI h
  have H0 := hidI h0
  have HB := hidI hb0
  have H3 := hidI (h.thsT tb rfl)
  clear h h0 hx hb0 hbox fT hat
  go_enter Tryz.func57, Tryz.ntmps57
  go_wp2_with fail
  try generalize (w.alloc (.cells #[.int .u8 1, .int .u8 cal, .int .u8 (ra : Int), .int .u8 (rb : Int), .int .u8 (rc : Int), .int .i64 num] 44)) = w0 at H0 HB d0 d1 d2 d3 d4 d5 rA rB rC cAt fA fB f9 hws ⊢
  try go_region
  all_goals (
    have h2 := (H0.out.poke HX.out { x with th := { x.th with reg := upd x.th.reg ra (num) } } (1 + ra) (.int .i64 (num)) (by omega) (encR_setReg x (num) ra hra) rfl rfl rfl rfl rfl rfl)
    rw [← Nat.add_assoc] at h2
    have H2 := hidI h2.drew
    have HC2 := hidI (Chg.then_ (S := fun k => own k ≠ 0) (Chg.of_below HB.out) (((Chg.refl (fun k => k = tb) w0).setCell (p := ⟨tb, n * 13 + 1 + ra, none⟩) (.inl rfl) (.int .i64 (num))).drew) (fun k _ e => by rw [e]; show own tb ≠ 0; rw [H3.out]; decide))
    have e9 := H2.out.cell (set_at HX.out _) 9 _ rfl
    have g9 := H2.out.free (by rw [List.length_set]; omega) (n * 13 + 9)
    clear h2 rA rB rC cAt fA fB f9 d0 d1 d2 d3 d4 d5
    simp only at e9
    go_wp2_with fail
    go_end0)
  exact ⟨rfl, RGoes.at_e H2.out (set_at HX.out _) (fun _ _ => rfl) HC2.out (by simp [MM.act, MM.put_put, MT.goes])⟩

set_option maxRecDepth 100000 in
set_option maxHeartbeats 2000000 in
theorem rdo_move (h : RAt w base b own mm xs mv (.slice (some ⟨tb, 0, none⟩) xs.length cap) ev) (hx : xs[n]? = some x) {cal num : Int} {ra rb rc : Nat} (hra : ra < 8) (hrb : rb < 8) (hrc : rc < 8) (hat : 0 ≤ x.th.at_ ∧ x.th.at_ ≤ 262144) (a : Int) :
    Calls Tryz.prog 57 #[.pointer (some ⟨b, 0, none⟩), .int .i64 (n : Int), .pointer (some ⟨tb, n * 13, none⟩), .agg #[.int .u8 2, .int .u8 cal, .int .u8 (ra : Int), .int .u8 (rb : Int), .int .u8 (rc : Int), .int .i64 num], .int .i64 a] w fun r w' => r = .returned (.tuple #[]) ∧ RGoes w base b own (mm.act n x.th ⟨2, cal, ra, rb, rc, num⟩ a) w' := by
  have hb0 : Below w.heap.size w (w.alloc (.cells #[.int .u8 2, .int .u8 cal, .int .u8 (ra : Int), .int .u8 (rb : Int), .int .u8 (rc : Int), .int .i64 num] 44)) := (Below.refl _ _).alloc (Nat.le_refl _) _
  have h0 := h.below hb0
  have hbox := block_new w (.cells #[.int .u8 2, .int .u8 cal, .int .u8 (ra : Int), .int .u8 (rb : Int), .int .u8 (rc : Int), .int .i64 num] 44)
  have d0 : ((w.alloc (.cells #[.int .u8 2, .int .u8 cal, .int .u8 (ra : Int), .int .u8 (rb : Int), .int .u8 (rc : Int), .int .i64 num] 44))).cell? ⟨w.heap.size, 0, none⟩ = some (.int .u8 2) := cell_of_block hbox rfl
  have d1 : ((w.alloc (.cells #[.int .u8 2, .int .u8 cal, .int .u8 (ra : Int), .int .u8 (rb : Int), .int .u8 (rc : Int), .int .i64 num] 44))).cell? ⟨w.heap.size, 1, none⟩ = some (.int .u8 cal) := cell_of_block hbox rfl
  have d2 : ((w.alloc (.cells #[.int .u8 2, .int .u8 cal, .int .u8 (ra : Int), .int .u8 (rb : Int), .int .u8 (rc : Int), .int .i64 num] 44))).cell? ⟨w.heap.size, 2, none⟩ = some (.int .u8 (ra : Int)) := cell_of_block hbox rfl
  have d3 : ((w.alloc (.cells #[.int .u8 2, .int .u8 cal, .int .u8 (ra : Int), .int .u8 (rb : Int), .int .u8 (rc : Int), .int .i64 num] 44))).cell? ⟨w.heap.size, 3, none⟩ = some (.int .u8 (rb : Int)) := cell_of_block hbox rfl
  have d4 : ((w.alloc (.cells #[.int .u8 2, .int .u8 cal, .int .u8 (ra : Int), .int .u8 (rb : Int), .int .u8 (rc : Int), .int .i64 num] 44))).cell? ⟨w.heap.size, 4, none⟩ = some (.int .u8 (rc : Int)) := cell_of_block hbox rfl
  have d5 : ((w.alloc (.cells #[.int .u8 2, .int .u8 cal, .int .u8 (ra : Int), .int .u8 (rb : Int), .int .u8 (rc : Int), .int .i64 num] 44))).cell? ⟨w.heap.size, 5, none⟩ = some (.int .i64 num) := cell_of_block hbox rfl
  have rA : ((w.alloc (.cells #[.int .u8 2, .int .u8 cal, .int .u8 (ra : Int), .int .u8 (rb : Int), .int .u8 (rc : Int), .int .i64 num] 44))).cell? ⟨tb, n * 13 + 1 + ra, none⟩ = some (.int .i64 (x.th.reg ra)) := by rw [Nat.add_assoc]; exact h0.cell hx _ _ (encR_reg x ra hra)
  have rB : ((w.alloc (.cells #[.int .u8 2, .int .u8 cal, .int .u8 (ra : Int), .int .u8 (rb : Int), .int .u8 (rc : Int), .int .i64 num] 44))).cell? ⟨tb, n * 13 + 1 + rb, none⟩ = some (.int .i64 (x.th.reg rb)) := by rw [Nat.add_assoc]; exact h0.cell hx _ _ (encR_reg x rb hrb)
  have rC : ((w.alloc (.cells #[.int .u8 2, .int .u8 cal, .int .u8 (ra : Int), .int .u8 (rb : Int), .int .u8 (rc : Int), .int .i64 num] 44))).cell? ⟨tb, n * 13 + 1 + rc, none⟩ = some (.int .i64 (x.th.reg rc)) := by rw [Nat.add_assoc]; exact h0.cell hx _ _ (encR_reg x rc hrc)
  have cAt : ((w.alloc (.cells #[.int .u8 2, .int .u8 cal, .int .u8 (ra : Int), .int .u8 (rb : Int), .int .u8 (rc : Int), .int .i64 num] 44))).cell? ⟨tb, n * 13 + 9, none⟩ = some (.int .i64 x.th.at_) := h0.cell hx 9 _ rfl
  have hws : w.heap.size < (w.alloc (.cells #[.int .u8 2, .int .u8 cal, .int .u8 (ra : Int), .int .u8 (rb : Int), .int .u8 (rc : Int), .int .i64 num] 44)).heap.size := by simp
  have hAi : (ra : Int) < 8 := by omega
  have hBi : (rb : Int) < 8 := by omega
  have hCi : (rc : Int) < 8 := by omega
  have hn : n < xs.length := (List.getElem?_eq_some_iff.1 hx).1
  have fT := h0.free (tb := tb) (by omega : 0 < xs.length)
  have fA := fT (n * 13 + 1 + ra)
  have fB := fT (n * 13 + 1 + rb)
  have f9 := fT (n * 13 + 9)
  have hw1 : IntKind.i64.wrap (x.th.at_ + 1) = x.th.at_ + 1 := IntWalk.i64_in _ (by omega)
  have hsz : ¬ w.heap.size = tb := by have := (rowLt h.ths (g := tb) rfl).2; omega
  have HX := hidI hx
  have H := hidI h
  have H0 := hidI h0
  have HB := hidI hb0
  have H3 := hidI (h.thsT tb rfl)
  clear h h0 hx hb0 hbox fT hat
  go_enter Tryz.func57, Tryz.ntmps57
  go_wp2_with fail
  try generalize (w.alloc (.cells #[.int .u8 2, .int .u8 cal, .int .u8 (ra : Int), .int .u8 (rb : Int), .int .u8 (rc : Int), .int .i64 num] 44)) = w0 at H0 HB d0 d1 d2 d3 d4 d5 rA rB rC cAt fA fB f9 hws ⊢
  try go_region
  all_goals (
    have h2 := (H0.out.poke HX.out { x with th := { x.th with reg := upd x.th.reg ra (x.th.reg rb) } } (1 + ra) (.int .i64 (x.th.reg rb)) (by omega) (encR_setReg x (x.th.reg rb) ra hra) rfl rfl rfl rfl rfl rfl)
    rw [← Nat.add_assoc] at h2
    have H2 := hidI h2.drew
    have HC2 := hidI (Chg.then_ (S := fun k => own k ≠ 0) (Chg.of_below HB.out) (((Chg.refl (fun k => k = tb) w0).setCell (p := ⟨tb, n * 13 + 1 + ra, none⟩) (.inl rfl) (.int .i64 (x.th.reg rb))).drew) (fun k _ e => by rw [e]; show own tb ≠ 0; rw [H3.out]; decide))
    have e9 := H2.out.cell (set_at HX.out _) 9 _ rfl
    have g9 := H2.out.free (by rw [List.length_set]; omega) (n * 13 + 9)
    clear h2 rA rB rC cAt fA fB f9 d0 d1 d2 d3 d4 d5
    simp only at e9
    go_wp2_with fail
    go_end0)
  exact ⟨rfl, RGoes.at_e H2.out (set_at HX.out _) (fun _ _ => rfl) HC2.out (by simp [MM.act, MM.put_put, MT.goes, MT.r])⟩

set_option maxRecDepth 100000 in
set_option maxHeartbeats 2000000 in
theorem rdo_jump (h : RAt w base b own mm xs mv (.slice (some ⟨tb, 0, none⟩) xs.length cap) ev) (hx : xs[n]? = some x) {cal num : Int} {ra rb rc : Nat} (hra : ra < 8) (hrb : rb < 8) (hrc : rc < 8) (hat : 0 ≤ x.th.at_ ∧ x.th.at_ ≤ 262144) (a : Int) (hj : 0 ≤ num ∧ num ≤ 262144) :
    Calls Tryz.prog 57 #[.pointer (some ⟨b, 0, none⟩), .int .i64 (n : Int), .pointer (some ⟨tb, n * 13, none⟩), .agg #[.int .u8 6, .int .u8 cal, .int .u8 (ra : Int), .int .u8 (rb : Int), .int .u8 (rc : Int), .int .i64 num], .int .i64 a] w fun r w' => r = .returned (.tuple #[]) ∧ RGoes w base b own (mm.act n x.th ⟨6, cal, ra, rb, rc, num⟩ a) w' := by
  have hb0 : Below w.heap.size w (w.alloc (.cells #[.int .u8 6, .int .u8 cal, .int .u8 (ra : Int), .int .u8 (rb : Int), .int .u8 (rc : Int), .int .i64 num] 44)) := (Below.refl _ _).alloc (Nat.le_refl _) _
  have h0 := h.below hb0
  have hbox := block_new w (.cells #[.int .u8 6, .int .u8 cal, .int .u8 (ra : Int), .int .u8 (rb : Int), .int .u8 (rc : Int), .int .i64 num] 44)
  have d0 : ((w.alloc (.cells #[.int .u8 6, .int .u8 cal, .int .u8 (ra : Int), .int .u8 (rb : Int), .int .u8 (rc : Int), .int .i64 num] 44))).cell? ⟨w.heap.size, 0, none⟩ = some (.int .u8 6) := cell_of_block hbox rfl
  have d1 : ((w.alloc (.cells #[.int .u8 6, .int .u8 cal, .int .u8 (ra : Int), .int .u8 (rb : Int), .int .u8 (rc : Int), .int .i64 num] 44))).cell? ⟨w.heap.size, 1, none⟩ = some (.int .u8 cal) := cell_of_block hbox rfl
  have d2 : ((w.alloc (.cells #[.int .u8 6, .int .u8 cal, .int .u8 (ra : Int), .int .u8 (rb : Int), .int .u8 (rc : Int), .int .i64 num] 44))).cell? ⟨w.heap.size, 2, none⟩ = some (.int .u8 (ra : Int)) := cell_of_block hbox rfl
  have d3 : ((w.alloc (.cells #[.int .u8 6, .int .u8 cal, .int .u8 (ra : Int), .int .u8 (rb : Int), .int .u8 (rc : Int), .int .i64 num] 44))).cell? ⟨w.heap.size, 3, none⟩ = some (.int .u8 (rb : Int)) := cell_of_block hbox rfl
  have d4 : ((w.alloc (.cells #[.int .u8 6, .int .u8 cal, .int .u8 (ra : Int), .int .u8 (rb : Int), .int .u8 (rc : Int), .int .i64 num] 44))).cell? ⟨w.heap.size, 4, none⟩ = some (.int .u8 (rc : Int)) := cell_of_block hbox rfl
  have d5 : ((w.alloc (.cells #[.int .u8 6, .int .u8 cal, .int .u8 (ra : Int), .int .u8 (rb : Int), .int .u8 (rc : Int), .int .i64 num] 44))).cell? ⟨w.heap.size, 5, none⟩ = some (.int .i64 num) := cell_of_block hbox rfl
  have rA : ((w.alloc (.cells #[.int .u8 6, .int .u8 cal, .int .u8 (ra : Int), .int .u8 (rb : Int), .int .u8 (rc : Int), .int .i64 num] 44))).cell? ⟨tb, n * 13 + 1 + ra, none⟩ = some (.int .i64 (x.th.reg ra)) := by rw [Nat.add_assoc]; exact h0.cell hx _ _ (encR_reg x ra hra)
  have rB : ((w.alloc (.cells #[.int .u8 6, .int .u8 cal, .int .u8 (ra : Int), .int .u8 (rb : Int), .int .u8 (rc : Int), .int .i64 num] 44))).cell? ⟨tb, n * 13 + 1 + rb, none⟩ = some (.int .i64 (x.th.reg rb)) := by rw [Nat.add_assoc]; exact h0.cell hx _ _ (encR_reg x rb hrb)
  have rC : ((w.alloc (.cells #[.int .u8 6, .int .u8 cal, .int .u8 (ra : Int), .int .u8 (rb : Int), .int .u8 (rc : Int), .int .i64 num] 44))).cell? ⟨tb, n * 13 + 1 + rc, none⟩ = some (.int .i64 (x.th.reg rc)) := by rw [Nat.add_assoc]; exact h0.cell hx _ _ (encR_reg x rc hrc)
  have cAt : ((w.alloc (.cells #[.int .u8 6, .int .u8 cal, .int .u8 (ra : Int), .int .u8 (rb : Int), .int .u8 (rc : Int), .int .i64 num] 44))).cell? ⟨tb, n * 13 + 9, none⟩ = some (.int .i64 x.th.at_) := h0.cell hx 9 _ rfl
  have hws : w.heap.size < (w.alloc (.cells #[.int .u8 6, .int .u8 cal, .int .u8 (ra : Int), .int .u8 (rb : Int), .int .u8 (rc : Int), .int .i64 num] 44)).heap.size := by simp
  have hAi : (ra : Int) < 8 := by omega
  have hBi : (rb : Int) < 8 := by omega
  have hCi : (rc : Int) < 8 := by omega
  have hn : n < xs.length := (List.getElem?_eq_some_iff.1 hx).1
  have fT := h0.free (tb := tb) (by omega : 0 < xs.length)
  have fA := fT (n * 13 + 1 + ra)
  have fB := fT (n * 13 + 1 + rb)
  have f9 := fT (n * 13 + 9)
  have hw1 : IntKind.i64.wrap (x.th.at_ + 1) = x.th.at_ + 1 := IntWalk.i64_in _ (by omega)
  have hsz : ¬ w.heap.size = tb := by have := (rowLt h.ths (g := tb) rfl).2; omega
  have HX := hidI hx
  have H := hidI h
  have H0 := hidI h0
  have HB := hidI hb0
  have H3 := hidI (h.thsT tb rfl)
  clear h h0 hx hb0 hbox fT hat
  go_enter Tryz.func57, Tryz.ntmps57
  go_wp2_with fail
  try generalize (w.alloc (.cells #[.int .u8 6, .int .u8 cal, .int .u8 (ra : Int), .int .u8 (rb : Int), .int .u8 (rc : Int), .int .i64 num] 44)) = w0 at H0 HB d0 d1 d2 d3 d4 d5 rA rB rC cAt fA fB f9 hws ⊢
  go_end0
  exact ⟨rfl, RGoes.at_e H0.out HX.out (fun _ _ => rfl) (Chg.of_below HB.out) (by simp [MM.act])⟩

set_option maxRecDepth 100000 in
set_option maxHeartbeats 2000000 in
theorem rdo_fence (h : RAt w base b own mm xs mv (.slice (some ⟨tb, 0, none⟩) xs.length cap) ev) (hx : xs[n]? = some x) {cal num : Int} {ra rb rc : Nat} (hra : ra < 8) (hrb : rb < 8) (hrc : rc < 8) (hat : 0 ≤ x.th.at_ ∧ x.th.at_ ≤ 262144) (a : Int) :
    Calls Tryz.prog 57 #[.pointer (some ⟨b, 0, none⟩), .int .i64 (n : Int), .pointer (some ⟨tb, n * 13, none⟩), .agg #[.int .u8 10, .int .u8 cal, .int .u8 (ra : Int), .int .u8 (rb : Int), .int .u8 (rc : Int), .int .i64 num], .int .i64 a] w fun r w' => r = .returned (.tuple #[]) ∧ RGoes w base b own (mm.act n x.th ⟨10, cal, ra, rb, rc, num⟩ a) w' := by
  have hb0 : Below w.heap.size w (w.alloc (.cells #[.int .u8 10, .int .u8 cal, .int .u8 (ra : Int), .int .u8 (rb : Int), .int .u8 (rc : Int), .int .i64 num] 44)) := (Below.refl _ _).alloc (Nat.le_refl _) _
  have h0 := h.below hb0
  have hbox := block_new w (.cells #[.int .u8 10, .int .u8 cal, .int .u8 (ra : Int), .int .u8 (rb : Int), .int .u8 (rc : Int), .int .i64 num] 44)
  have d0 : ((w.alloc (.cells #[.int .u8 10, .int .u8 cal, .int .u8 (ra : Int), .int .u8 (rb : Int), .int .u8 (rc : Int), .int .i64 num] 44))).cell? ⟨w.heap.size, 0, none⟩ = some (.int .u8 10) := cell_of_block hbox rfl
  have d1 : ((w.alloc (.cells #[.int .u8 10, .int .u8 cal, .int .u8 (ra : Int), .int .u8 (rb : Int), .int .u8 (rc : Int), .int .i64 num] 44))).cell? ⟨w.heap.size, 1, none⟩ = some (.int .u8 cal) := cell_of_block hbox rfl
  have d2 : ((w.alloc (.cells #[.int .u8 10, .int .u8 cal, .int .u8 (ra : Int), .int .u8 (rb : Int), .int .u8 (rc : Int), .int .i64 num] 44))).cell? ⟨w.heap.size, 2, none⟩ = some (.int .u8 (ra : Int)) := cell_of_block hbox rfl
  have d3 : ((w.alloc (.cells #[.int .u8 10, .int .u8 cal, .int .u8 (ra : Int), .int .u8 (rb : Int), .int .u8 (rc : Int), .int .i64 num] 44))).cell? ⟨w.heap.size, 3, none⟩ = some (.int .u8 (rb : Int)) := cell_of_block hbox rfl
  have d4 : ((w.alloc (.cells #[.int .u8 10, .int .u8 cal, .int .u8 (ra : Int), .int .u8 (rb : Int), .int .u8 (rc : Int), .int .i64 num] 44))).cell? ⟨w.heap.size, 4, none⟩ = some (.int .u8 (rc : Int)) := cell_of_block hbox rfl
  have d5 : ((w.alloc (.cells #[.int .u8 10, .int .u8 cal, .int .u8 (ra : Int), .int .u8 (rb : Int), .int .u8 (rc : Int), .int .i64 num] 44))).cell? ⟨w.heap.size, 5, none⟩ = some (.int .i64 num) := cell_of_block hbox rfl
  have rA : ((w.alloc (.cells #[.int .u8 10, .int .u8 cal, .int .u8 (ra : Int), .int .u8 (rb : Int), .int .u8 (rc : Int), .int .i64 num] 44))).cell? ⟨tb, n * 13 + 1 + ra, none⟩ = some (.int .i64 (x.th.reg ra)) := by rw [Nat.add_assoc]; exact h0.cell hx _ _ (encR_reg x ra hra)
  have rB : ((w.alloc (.cells #[.int .u8 10, .int .u8 cal, .int .u8 (ra : Int), .int .u8 (rb : Int), .int .u8 (rc : Int), .int .i64 num] 44))).cell? ⟨tb, n * 13 + 1 + rb, none⟩ = some (.int .i64 (x.th.reg rb)) := by rw [Nat.add_assoc]; exact h0.cell hx _ _ (encR_reg x rb hrb)
  have rC : ((w.alloc (.cells #[.int .u8 10, .int .u8 cal, .int .u8 (ra : Int), .int .u8 (rb : Int), .int .u8 (rc : Int), .int .i64 num] 44))).cell? ⟨tb, n * 13 + 1 + rc, none⟩ = some (.int .i64 (x.th.reg rc)) := by rw [Nat.add_assoc]; exact h0.cell hx _ _ (encR_reg x rc hrc)
  have cAt : ((w.alloc (.cells #[.int .u8 10, .int .u8 cal, .int .u8 (ra : Int), .int .u8 (rb : Int), .int .u8 (rc : Int), .int .i64 num] 44))).cell? ⟨tb, n * 13 + 9, none⟩ = some (.int .i64 x.th.at_) := h0.cell hx 9 _ rfl
  have hws : w.heap.size < (w.alloc (.cells #[.int .u8 10, .int .u8 cal, .int .u8 (ra : Int), .int .u8 (rb : Int), .int .u8 (rc : Int), .int .i64 num] 44)).heap.size := by simp
  have hAi : (ra : Int) < 8 := by omega
  have hBi : (rb : Int) < 8 := by omega
  have hCi : (rc : Int) < 8 := by omega
  have hn : n < xs.length := (List.getElem?_eq_some_iff.1 hx).1
  have fT := h0.free (tb := tb) (by omega : 0 < xs.length)
  have fA := fT (n * 13 + 1 + ra)
  have fB := fT (n * 13 + 1 + rb)
  have f9 := fT (n * 13 + 9)
  have hw1 : IntKind.i64.wrap (x.th.at_ + 1) = x.th.at_ + 1 := IntWalk.i64_in _ (by omega)
  have hsz : ¬ w.heap.size = tb := by have := (rowLt h.ths (g := tb) rfl).2; omega
  have HX := hidI hx
  have H := hidI h
  have H0 := hidI h0
  have HB := hidI hb0
  have H3 := hidI (h.thsT tb rfl)
  clear h h0 hx hb0 hbox fT hat
  go_enter Tryz.func57, Tryz.ntmps57
  go_wp2_with fail
  try generalize (w.alloc (.cells #[.int .u8 10, .int .u8 cal, .int .u8 (ra : Int), .int .u8 (rb : Int), .int .u8 (rc : Int), .int .i64 num] 44)) = w0 at H0 HB d0 d1 d2 d3 d4 d5 rA rB rC cAt fA fB f9 hws ⊢
  go_end0
  exact ⟨rfl, RGoes.at_e H0.out HX.out (fun _ _ => rfl) (Chg.of_below HB.out) (by simp [MM.act, MT.next])⟩

set_option maxRecDepth 100000 in
set_option maxHeartbeats 2000000 in
theorem rdo_zero (h : RAt w base b own mm xs mv (.slice (some ⟨tb, 0, none⟩) xs.length cap) ev) (hx : xs[n]? = some x) {cal num : Int} {ra rb rc : Nat} (hra : ra < 8) (hrb : rb < 8) (hrc : rc < 8) (hat : 0 ≤ x.th.at_ ∧ x.th.at_ ≤ 262144) (a : Int) (hj : 0 ≤ num ∧ num ≤ 262144) :
    Calls Tryz.prog 57 #[.pointer (some ⟨b, 0, none⟩), .int .i64 (n : Int), .pointer (some ⟨tb, n * 13, none⟩), .agg #[.int .u8 7, .int .u8 cal, .int .u8 (ra : Int), .int .u8 (rb : Int), .int .u8 (rc : Int), .int .i64 num], .int .i64 a] w fun r w' => r = .returned (.tuple #[]) ∧ RGoes w base b own (mm.act n x.th ⟨7, cal, ra, rb, rc, num⟩ a) w' := by
  have hb0 : Below w.heap.size w (w.alloc (.cells #[.int .u8 7, .int .u8 cal, .int .u8 (ra : Int), .int .u8 (rb : Int), .int .u8 (rc : Int), .int .i64 num] 44)) := (Below.refl _ _).alloc (Nat.le_refl _) _
  have h0 := h.below hb0
  have hbox := block_new w (.cells #[.int .u8 7, .int .u8 cal, .int .u8 (ra : Int), .int .u8 (rb : Int), .int .u8 (rc : Int), .int .i64 num] 44)
  have d0 : ((w.alloc (.cells #[.int .u8 7, .int .u8 cal, .int .u8 (ra : Int), .int .u8 (rb : Int), .int .u8 (rc : Int), .int .i64 num] 44))).cell? ⟨w.heap.size, 0, none⟩ = some (.int .u8 7) := cell_of_block hbox rfl
  have d1 : ((w.alloc (.cells #[.int .u8 7, .int .u8 cal, .int .u8 (ra : Int), .int .u8 (rb : Int), .int .u8 (rc : Int), .int .i64 num] 44))).cell? ⟨w.heap.size, 1, none⟩ = some (.int .u8 cal) := cell_of_block hbox rfl
  have d2 : ((w.alloc (.cells #[.int .u8 7, .int .u8 cal, .int .u8 (ra : Int), .int .u8 (rb : Int), .int .u8 (rc : Int), .int .i64 num] 44))).cell? ⟨w.heap.size, 2, none⟩ = some (.int .u8 (ra : Int)) := cell_of_block hbox rfl
  have d3 : ((w.alloc (.cells #[.int .u8 7, .int .u8 cal, .int .u8 (ra : Int), .int .u8 (rb : Int), .int .u8 (rc : Int), .int .i64 num] 44))).cell? ⟨w.heap.size, 3, none⟩ = some (.int .u8 (rb : Int)) := cell_of_block hbox rfl
  have d4 : ((w.alloc (.cells #[.int .u8 7, .int .u8 cal, .int .u8 (ra : Int), .int .u8 (rb : Int), .int .u8 (rc : Int), .int .i64 num] 44))).cell? ⟨w.heap.size, 4, none⟩ = some (.int .u8 (rc : Int)) := cell_of_block hbox rfl
  have d5 : ((w.alloc (.cells #[.int .u8 7, .int .u8 cal, .int .u8 (ra : Int), .int .u8 (rb : Int), .int .u8 (rc : Int), .int .i64 num] 44))).cell? ⟨w.heap.size, 5, none⟩ = some (.int .i64 num) := cell_of_block hbox rfl
  have rA : ((w.alloc (.cells #[.int .u8 7, .int .u8 cal, .int .u8 (ra : Int), .int .u8 (rb : Int), .int .u8 (rc : Int), .int .i64 num] 44))).cell? ⟨tb, n * 13 + 1 + ra, none⟩ = some (.int .i64 (x.th.reg ra)) := by rw [Nat.add_assoc]; exact h0.cell hx _ _ (encR_reg x ra hra)
  have rB : ((w.alloc (.cells #[.int .u8 7, .int .u8 cal, .int .u8 (ra : Int), .int .u8 (rb : Int), .int .u8 (rc : Int), .int .i64 num] 44))).cell? ⟨tb, n * 13 + 1 + rb, none⟩ = some (.int .i64 (x.th.reg rb)) := by rw [Nat.add_assoc]; exact h0.cell hx _ _ (encR_reg x rb hrb)
  have rC : ((w.alloc (.cells #[.int .u8 7, .int .u8 cal, .int .u8 (ra : Int), .int .u8 (rb : Int), .int .u8 (rc : Int), .int .i64 num] 44))).cell? ⟨tb, n * 13 + 1 + rc, none⟩ = some (.int .i64 (x.th.reg rc)) := by rw [Nat.add_assoc]; exact h0.cell hx _ _ (encR_reg x rc hrc)
  have cAt : ((w.alloc (.cells #[.int .u8 7, .int .u8 cal, .int .u8 (ra : Int), .int .u8 (rb : Int), .int .u8 (rc : Int), .int .i64 num] 44))).cell? ⟨tb, n * 13 + 9, none⟩ = some (.int .i64 x.th.at_) := h0.cell hx 9 _ rfl
  have hws : w.heap.size < (w.alloc (.cells #[.int .u8 7, .int .u8 cal, .int .u8 (ra : Int), .int .u8 (rb : Int), .int .u8 (rc : Int), .int .i64 num] 44)).heap.size := by simp
  have hAi : (ra : Int) < 8 := by omega
  have hBi : (rb : Int) < 8 := by omega
  have hCi : (rc : Int) < 8 := by omega
  have hn : n < xs.length := (List.getElem?_eq_some_iff.1 hx).1
  have fT := h0.free (tb := tb) (by omega : 0 < xs.length)
  have fA := fT (n * 13 + 1 + ra)
  have fB := fT (n * 13 + 1 + rb)
  have f9 := fT (n * 13 + 9)
  have hw1 : IntKind.i64.wrap (x.th.at_ + 1) = x.th.at_ + 1 := IntWalk.i64_in _ (by omega)
  have hsz : ¬ w.heap.size = tb := by have := (rowLt h.ths (g := tb) rfl).2; omega
  have HX := hidI hx
  have H := hidI h
  have H0 := hidI h0
  have HB := hidI hb0
  have H3 := hidI (h.thsT tb rfl)
  clear h h0 hx hb0 hbox fT hat
  by_cases hz : x.th.reg ra = 0
  · rw [hz] at rA
    have HZ := hidI hz
    clear hz
    go_enter Tryz.func57, Tryz.ntmps57
    go_wp2_with fail
    try generalize (w.alloc (.cells #[.int .u8 7, .int .u8 cal, .int .u8 (ra : Int), .int .u8 (rb : Int), .int .u8 (rc : Int), .int .i64 num] 44)) = w0 at H0 HB d0 d1 d2 d3 d4 d5 rA rB rC cAt fA fB f9 hws ⊢
    go_quiet (fail)
    go_wp2_with fail
    go_end0
    exact ⟨rfl, RGoes.at_e (H0.out.drewN _) HX.out (fun _ _ => rfl) (Chg.of_below (below_drewN HB.out _)) (by simp [MM.act, MT.r, HZ.out])⟩
  · have hz1 : (x.th.reg ra == 0) = false := by rw [beq_eq_false_iff_ne]; exact hz
    have HZ := hidI hz
    clear hz
    go_enter Tryz.func57, Tryz.ntmps57
    go_wp2_with fail
    try generalize (w.alloc (.cells #[.int .u8 7, .int .u8 cal, .int .u8 (ra : Int), .int .u8 (rb : Int), .int .u8 (rc : Int), .int .i64 num] 44)) = w0 at H0 HB d0 d1 d2 d3 d4 d5 rA rB rC cAt fA fB f9 hws ⊢
    go_quiet (fail)
    go_wp2_with fail
    go_end0
    exact ⟨rfl, RGoes.at_e (H0.out.drewN _) HX.out (fun _ _ => rfl) (Chg.of_below (below_drewN HB.out _)) (by simp [MM.act, MT.r, HZ.out])⟩

set_option maxRecDepth 100000 in
set_option maxHeartbeats 2000000 in
theorem rdo_trap (h : RAt w base b own mm xs mv (.slice (some ⟨tb, 0, none⟩) xs.length cap) ev) (hx : xs[n]? = some x) {cal num : Int} {ra rb rc : Nat} (hra : ra < 8) (hrb : rb < 8) (hrc : rc < 8) (hat : 0 ≤ x.th.at_ ∧ x.th.at_ ≤ 262144) (a : Int) (hnum : 2 ≤ num ∧ num ≤ 8) (hev : mm.evs.length < 2000000000) (h4 : xs.length ≤ 4) :
    Calls Tryz.prog 57 #[.pointer (some ⟨b, 0, none⟩), .int .i64 (n : Int), .pointer (some ⟨tb, n * 13, none⟩), .agg #[.int .u8 13, .int .u8 cal, .int .u8 (ra : Int), .int .u8 (rb : Int), .int .u8 (rc : Int), .int .i64 num], .int .i64 a] w fun r w' => r = .returned (.tuple #[]) ∧ RGoes w base b own (mm.act n x.th ⟨13, cal, ra, rb, rc, num⟩ a) w' := by
  have hb0 : Below w.heap.size w (w.alloc (.cells #[.int .u8 13, .int .u8 cal, .int .u8 (ra : Int), .int .u8 (rb : Int), .int .u8 (rc : Int), .int .i64 num] 44)) := (Below.refl _ _).alloc (Nat.le_refl _) _
  have h0 := h.below hb0
  have hbox := block_new w (.cells #[.int .u8 13, .int .u8 cal, .int .u8 (ra : Int), .int .u8 (rb : Int), .int .u8 (rc : Int), .int .i64 num] 44)
  have d0 : ((w.alloc (.cells #[.int .u8 13, .int .u8 cal, .int .u8 (ra : Int), .int .u8 (rb : Int), .int .u8 (rc : Int), .int .i64 num] 44))).cell? ⟨w.heap.size, 0, none⟩ = some (.int .u8 13) := cell_of_block hbox rfl
  have d1 : ((w.alloc (.cells #[.int .u8 13, .int .u8 cal, .int .u8 (ra : Int), .int .u8 (rb : Int), .int .u8 (rc : Int), .int .i64 num] 44))).cell? ⟨w.heap.size, 1, none⟩ = some (.int .u8 cal) := cell_of_block hbox rfl
  have d2 : ((w.alloc (.cells #[.int .u8 13, .int .u8 cal, .int .u8 (ra : Int), .int .u8 (rb : Int), .int .u8 (rc : Int), .int .i64 num] 44))).cell? ⟨w.heap.size, 2, none⟩ = some (.int .u8 (ra : Int)) := cell_of_block hbox rfl
  have d3 : ((w.alloc (.cells #[.int .u8 13, .int .u8 cal, .int .u8 (ra : Int), .int .u8 (rb : Int), .int .u8 (rc : Int), .int .i64 num] 44))).cell? ⟨w.heap.size, 3, none⟩ = some (.int .u8 (rb : Int)) := cell_of_block hbox rfl
  have d4 : ((w.alloc (.cells #[.int .u8 13, .int .u8 cal, .int .u8 (ra : Int), .int .u8 (rb : Int), .int .u8 (rc : Int), .int .i64 num] 44))).cell? ⟨w.heap.size, 4, none⟩ = some (.int .u8 (rc : Int)) := cell_of_block hbox rfl
  have d5 : ((w.alloc (.cells #[.int .u8 13, .int .u8 cal, .int .u8 (ra : Int), .int .u8 (rb : Int), .int .u8 (rc : Int), .int .i64 num] 44))).cell? ⟨w.heap.size, 5, none⟩ = some (.int .i64 num) := cell_of_block hbox rfl
  have rA : ((w.alloc (.cells #[.int .u8 13, .int .u8 cal, .int .u8 (ra : Int), .int .u8 (rb : Int), .int .u8 (rc : Int), .int .i64 num] 44))).cell? ⟨tb, n * 13 + 1 + ra, none⟩ = some (.int .i64 (x.th.reg ra)) := by rw [Nat.add_assoc]; exact h0.cell hx _ _ (encR_reg x ra hra)
  have rB : ((w.alloc (.cells #[.int .u8 13, .int .u8 cal, .int .u8 (ra : Int), .int .u8 (rb : Int), .int .u8 (rc : Int), .int .i64 num] 44))).cell? ⟨tb, n * 13 + 1 + rb, none⟩ = some (.int .i64 (x.th.reg rb)) := by rw [Nat.add_assoc]; exact h0.cell hx _ _ (encR_reg x rb hrb)
  have rC : ((w.alloc (.cells #[.int .u8 13, .int .u8 cal, .int .u8 (ra : Int), .int .u8 (rb : Int), .int .u8 (rc : Int), .int .i64 num] 44))).cell? ⟨tb, n * 13 + 1 + rc, none⟩ = some (.int .i64 (x.th.reg rc)) := by rw [Nat.add_assoc]; exact h0.cell hx _ _ (encR_reg x rc hrc)
  have cAt : ((w.alloc (.cells #[.int .u8 13, .int .u8 cal, .int .u8 (ra : Int), .int .u8 (rb : Int), .int .u8 (rc : Int), .int .i64 num] 44))).cell? ⟨tb, n * 13 + 9, none⟩ = some (.int .i64 x.th.at_) := h0.cell hx 9 _ rfl
  have hws : w.heap.size < (w.alloc (.cells #[.int .u8 13, .int .u8 cal, .int .u8 (ra : Int), .int .u8 (rb : Int), .int .u8 (rc : Int), .int .i64 num] 44)).heap.size := by simp
  have hAi : (ra : Int) < 8 := by omega
  have hBi : (rb : Int) < 8 := by omega
  have hCi : (rc : Int) < 8 := by omega
  have hn : n < xs.length := (List.getElem?_eq_some_iff.1 hx).1
  have fT := h0.free (tb := tb) (by omega : 0 < xs.length)
  have fA := fT (n * 13 + 1 + ra)
  have fB := fT (n * 13 + 1 + rb)
  have f9 := fT (n * 13 + 9)
  have hw1 : IntKind.i64.wrap (x.th.at_ + 1) = x.th.at_ + 1 := IntWalk.i64_in _ (by omega)
  have hsz : ¬ w.heap.size = tb := by have := (rowLt h.ths (g := tb) rfl).2; omega
  have HX := hidI hx
  have H := hidI h
  have H0 := hidI h0
  have HB := hidI hb0
  have H3 := hidI (h.thsT tb rfl)
  have eN : IntKind.u8.wrap num = num := by rw [IntKind.wrap_u8]; omega
  have HE := hidI hev
  have H4 := hidI h4
  clear hev h4
  clear h h0 hx hb0 hbox fT hat
  go_enter Tryz.func57, Tryz.ntmps57
  go_wp2_with fail
  try generalize (w.alloc (.cells #[.int .u8 13, .int .u8 cal, .int .u8 (ra : Int), .int .u8 (rb : Int), .int .u8 (rc : Int), .int .i64 num] 44)) = w0 at H0 HB d0 d1 d2 d3 d4 d5 rA rB rC cAt fA fB f9 hws ⊢
  refine (rend_any H0.out HX.out HE.out H4.out num (by omega)).mono ?_
  rintro r w1 ⟨rfl, hg⟩
  have HG := hidI hg
  clear hg
  go_wp2_with fail
  try simp only [Exit.inBlock, Exit.then]
  refine bodyPost_ret (results_none rfl _ _ _) rfl ?_
  exact ⟨rfl, by have := RGoes.after HB.out HG.out (fun k hk => H.out.fresh k hk); simpa [MM.act] using this⟩

set_option maxRecDepth 100000 in
set_option maxHeartbeats 2000000 in
theorem rdo_halt (h : RAt w base b own mm xs mv (.slice (some ⟨tb, 0, none⟩) xs.length cap) ev) (hx : xs[n]? = some x) {cal num : Int} {ra rb rc : Nat} (hra : ra < 8) (hrb : rb < 8) (hrc : rc < 8) (hat : 0 ≤ x.th.at_ ∧ x.th.at_ ≤ 262144) (a : Int) (hev : mm.evs.length < 2000000000) (h4 : xs.length ≤ 4) :
    Calls Tryz.prog 57 #[.pointer (some ⟨b, 0, none⟩), .int .i64 (n : Int), .pointer (some ⟨tb, n * 13, none⟩), .agg #[.int .u8 14, .int .u8 cal, .int .u8 (ra : Int), .int .u8 (rb : Int), .int .u8 (rc : Int), .int .i64 num], .int .i64 a] w fun r w' => r = .returned (.tuple #[]) ∧ RGoes w base b own (mm.act n x.th ⟨14, cal, ra, rb, rc, num⟩ a) w' := by
  have hb0 : Below w.heap.size w (w.alloc (.cells #[.int .u8 14, .int .u8 cal, .int .u8 (ra : Int), .int .u8 (rb : Int), .int .u8 (rc : Int), .int .i64 num] 44)) := (Below.refl _ _).alloc (Nat.le_refl _) _
  have h0 := h.below hb0
  have hbox := block_new w (.cells #[.int .u8 14, .int .u8 cal, .int .u8 (ra : Int), .int .u8 (rb : Int), .int .u8 (rc : Int), .int .i64 num] 44)
  have d0 : ((w.alloc (.cells #[.int .u8 14, .int .u8 cal, .int .u8 (ra : Int), .int .u8 (rb : Int), .int .u8 (rc : Int), .int .i64 num] 44))).cell? ⟨w.heap.size, 0, none⟩ = some (.int .u8 14) := cell_of_block hbox rfl
  have d1 : ((w.alloc (.cells #[.int .u8 14, .int .u8 cal, .int .u8 (ra : Int), .int .u8 (rb : Int), .int .u8 (rc : Int), .int .i64 num] 44))).cell? ⟨w.heap.size, 1, none⟩ = some (.int .u8 cal) := cell_of_block hbox rfl
  have d2 : ((w.alloc (.cells #[.int .u8 14, .int .u8 cal, .int .u8 (ra : Int), .int .u8 (rb : Int), .int .u8 (rc : Int), .int .i64 num] 44))).cell? ⟨w.heap.size, 2, none⟩ = some (.int .u8 (ra : Int)) := cell_of_block hbox rfl
  have d3 : ((w.alloc (.cells #[.int .u8 14, .int .u8 cal, .int .u8 (ra : Int), .int .u8 (rb : Int), .int .u8 (rc : Int), .int .i64 num] 44))).cell? ⟨w.heap.size, 3, none⟩ = some (.int .u8 (rb : Int)) := cell_of_block hbox rfl
  have d4 : ((w.alloc (.cells #[.int .u8 14, .int .u8 cal, .int .u8 (ra : Int), .int .u8 (rb : Int), .int .u8 (rc : Int), .int .i64 num] 44))).cell? ⟨w.heap.size, 4, none⟩ = some (.int .u8 (rc : Int)) := cell_of_block hbox rfl
  have d5 : ((w.alloc (.cells #[.int .u8 14, .int .u8 cal, .int .u8 (ra : Int), .int .u8 (rb : Int), .int .u8 (rc : Int), .int .i64 num] 44))).cell? ⟨w.heap.size, 5, none⟩ = some (.int .i64 num) := cell_of_block hbox rfl
  have rA : ((w.alloc (.cells #[.int .u8 14, .int .u8 cal, .int .u8 (ra : Int), .int .u8 (rb : Int), .int .u8 (rc : Int), .int .i64 num] 44))).cell? ⟨tb, n * 13 + 1 + ra, none⟩ = some (.int .i64 (x.th.reg ra)) := by rw [Nat.add_assoc]; exact h0.cell hx _ _ (encR_reg x ra hra)
  have rB : ((w.alloc (.cells #[.int .u8 14, .int .u8 cal, .int .u8 (ra : Int), .int .u8 (rb : Int), .int .u8 (rc : Int), .int .i64 num] 44))).cell? ⟨tb, n * 13 + 1 + rb, none⟩ = some (.int .i64 (x.th.reg rb)) := by rw [Nat.add_assoc]; exact h0.cell hx _ _ (encR_reg x rb hrb)
  have rC : ((w.alloc (.cells #[.int .u8 14, .int .u8 cal, .int .u8 (ra : Int), .int .u8 (rb : Int), .int .u8 (rc : Int), .int .i64 num] 44))).cell? ⟨tb, n * 13 + 1 + rc, none⟩ = some (.int .i64 (x.th.reg rc)) := by rw [Nat.add_assoc]; exact h0.cell hx _ _ (encR_reg x rc hrc)
  have cAt : ((w.alloc (.cells #[.int .u8 14, .int .u8 cal, .int .u8 (ra : Int), .int .u8 (rb : Int), .int .u8 (rc : Int), .int .i64 num] 44))).cell? ⟨tb, n * 13 + 9, none⟩ = some (.int .i64 x.th.at_) := h0.cell hx 9 _ rfl
  have hws : w.heap.size < (w.alloc (.cells #[.int .u8 14, .int .u8 cal, .int .u8 (ra : Int), .int .u8 (rb : Int), .int .u8 (rc : Int), .int .i64 num] 44)).heap.size := by simp
  have hAi : (ra : Int) < 8 := by omega
  have hBi : (rb : Int) < 8 := by omega
  have hCi : (rc : Int) < 8 := by omega
  have hn : n < xs.length := (List.getElem?_eq_some_iff.1 hx).1
  have fT := h0.free (tb := tb) (by omega : 0 < xs.length)
  have fA := fT (n * 13 + 1 + ra)
  have fB := fT (n * 13 + 1 + rb)
  have f9 := fT (n * 13 + 9)
  have hw1 : IntKind.i64.wrap (x.th.at_ + 1) = x.th.at_ + 1 := IntWalk.i64_in _ (by omega)
  have hsz : ¬ w.heap.size = tb := by have := (rowLt h.ths (g := tb) rfl).2; omega
  have HX := hidI hx
  have H := hidI h
  have H0 := hidI h0
  have HB := hidI hb0
  have H3 := hidI (h.thsT tb rfl)
  have HE := hidI hev
  have H4 := hidI h4
  clear hev h4
  clear h h0 hx hb0 hbox fT hat
  go_enter Tryz.func57, Tryz.ntmps57
  go_wp2_with fail
  try generalize (w.alloc (.cells #[.int .u8 14, .int .u8 cal, .int .u8 (ra : Int), .int .u8 (rb : Int), .int .u8 (rc : Int), .int .i64 num] 44)) = w0 at H0 HB d0 d1 d2 d3 d4 d5 rA rB rC cAt fA fB f9 hws ⊢
  refine (rend_any H0.out HX.out HE.out H4.out 1 (by omega)).mono ?_
  rintro r w1 ⟨rfl, hg⟩
  have HG := hidI hg
  clear hg
  go_wp2_with fail
  try simp only [Exit.inBlock, Exit.then]
  refine bodyPost_ret (results_none rfl _ _ _) rfl ?_
  exact ⟨rfl, by have := RGoes.after HB.out HG.out (fun k hk => H.out.fresh k hk); simpa [MM.act] using this⟩

set_option maxRecDepth 100000 in
set_option maxHeartbeats 2000000 in
theorem rdo_note (h : RAt w base b own mm xs mv (.slice (some ⟨tb, 0, none⟩) xs.length cap) ev) (hx : xs[n]? = some x) {cal num : Int} {ra rb rc : Nat} (hra : ra < 8) (hrb : rb < 8) (hrc : rc < 8) (hat : 0 ≤ x.th.at_ ∧ x.th.at_ ≤ 262144) (a : Int) (hnum : 1 ≤ num ∧ num ≤ 8) (hev : mm.evs.length < 2000000000) :
    Calls Tryz.prog 57 #[.pointer (some ⟨b, 0, none⟩), .int .i64 (n : Int), .pointer (some ⟨tb, n * 13, none⟩), .agg #[.int .u8 12, .int .u8 cal, .int .u8 (ra : Int), .int .u8 (rb : Int), .int .u8 (rc : Int), .int .i64 num], .int .i64 a] w fun r w' => r = .returned (.tuple #[]) ∧ RGoes w base b own (mm.act n x.th ⟨12, cal, ra, rb, rc, num⟩ a) w' := by
  have hb0 : Below w.heap.size w (w.alloc (.cells #[.int .u8 12, .int .u8 cal, .int .u8 (ra : Int), .int .u8 (rb : Int), .int .u8 (rc : Int), .int .i64 num] 44)) := (Below.refl _ _).alloc (Nat.le_refl _) _
  have h0 := h.below hb0
  have hbox := block_new w (.cells #[.int .u8 12, .int .u8 cal, .int .u8 (ra : Int), .int .u8 (rb : Int), .int .u8 (rc : Int), .int .i64 num] 44)
  have d0 : ((w.alloc (.cells #[.int .u8 12, .int .u8 cal, .int .u8 (ra : Int), .int .u8 (rb : Int), .int .u8 (rc : Int), .int .i64 num] 44))).cell? ⟨w.heap.size, 0, none⟩ = some (.int .u8 12) := cell_of_block hbox rfl
  have d1 : ((w.alloc (.cells #[.int .u8 12, .int .u8 cal, .int .u8 (ra : Int), .int .u8 (rb : Int), .int .u8 (rc : Int), .int .i64 num] 44))).cell? ⟨w.heap.size, 1, none⟩ = some (.int .u8 cal) := cell_of_block hbox rfl
  have d2 : ((w.alloc (.cells #[.int .u8 12, .int .u8 cal, .int .u8 (ra : Int), .int .u8 (rb : Int), .int .u8 (rc : Int), .int .i64 num] 44))).cell? ⟨w.heap.size, 2, none⟩ = some (.int .u8 (ra : Int)) := cell_of_block hbox rfl
  have d3 : ((w.alloc (.cells #[.int .u8 12, .int .u8 cal, .int .u8 (ra : Int), .int .u8 (rb : Int), .int .u8 (rc : Int), .int .i64 num] 44))).cell? ⟨w.heap.size, 3, none⟩ = some (.int .u8 (rb : Int)) := cell_of_block hbox rfl
  have d4 : ((w.alloc (.cells #[.int .u8 12, .int .u8 cal, .int .u8 (ra : Int), .int .u8 (rb : Int), .int .u8 (rc : Int), .int .i64 num] 44))).cell? ⟨w.heap.size, 4, none⟩ = some (.int .u8 (rc : Int)) := cell_of_block hbox rfl
  have d5 : ((w.alloc (.cells #[.int .u8 12, .int .u8 cal, .int .u8 (ra : Int), .int .u8 (rb : Int), .int .u8 (rc : Int), .int .i64 num] 44))).cell? ⟨w.heap.size, 5, none⟩ = some (.int .i64 num) := cell_of_block hbox rfl
  have rA : ((w.alloc (.cells #[.int .u8 12, .int .u8 cal, .int .u8 (ra : Int), .int .u8 (rb : Int), .int .u8 (rc : Int), .int .i64 num] 44))).cell? ⟨tb, n * 13 + 1 + ra, none⟩ = some (.int .i64 (x.th.reg ra)) := by rw [Nat.add_assoc]; exact h0.cell hx _ _ (encR_reg x ra hra)
  have rB : ((w.alloc (.cells #[.int .u8 12, .int .u8 cal, .int .u8 (ra : Int), .int .u8 (rb : Int), .int .u8 (rc : Int), .int .i64 num] 44))).cell? ⟨tb, n * 13 + 1 + rb, none⟩ = some (.int .i64 (x.th.reg rb)) := by rw [Nat.add_assoc]; exact h0.cell hx _ _ (encR_reg x rb hrb)
  have rC : ((w.alloc (.cells #[.int .u8 12, .int .u8 cal, .int .u8 (ra : Int), .int .u8 (rb : Int), .int .u8 (rc : Int), .int .i64 num] 44))).cell? ⟨tb, n * 13 + 1 + rc, none⟩ = some (.int .i64 (x.th.reg rc)) := by rw [Nat.add_assoc]; exact h0.cell hx _ _ (encR_reg x rc hrc)
  have cAt : ((w.alloc (.cells #[.int .u8 12, .int .u8 cal, .int .u8 (ra : Int), .int .u8 (rb : Int), .int .u8 (rc : Int), .int .i64 num] 44))).cell? ⟨tb, n * 13 + 9, none⟩ = some (.int .i64 x.th.at_) := h0.cell hx 9 _ rfl
  have hws : w.heap.size < (w.alloc (.cells #[.int .u8 12, .int .u8 cal, .int .u8 (ra : Int), .int .u8 (rb : Int), .int .u8 (rc : Int), .int .i64 num] 44)).heap.size := by simp
  have hAi : (ra : Int) < 8 := by omega
  have hBi : (rb : Int) < 8 := by omega
  have hCi : (rc : Int) < 8 := by omega
  have hn : n < xs.length := (List.getElem?_eq_some_iff.1 hx).1
  have fT := h0.free (tb := tb) (by omega : 0 < xs.length)
  have fA := fT (n * 13 + 1 + ra)
  have fB := fT (n * 13 + 1 + rb)
  have f9 := fT (n * 13 + 9)
  have hw1 : IntKind.i64.wrap (x.th.at_ + 1) = x.th.at_ + 1 := IntWalk.i64_in _ (by omega)
  have hsz : ¬ w.heap.size = tb := by have := (rowLt h.ths (g := tb) rfl).2; omega
  have HX := hidI hx
  have H := hidI h
  have H0 := hidI h0
  have HB := hidI hb0
  have H3 := hidI (h.thsT tb rfl)
  have eN : IntKind.u8.wrap num = num := by rw [IntKind.wrap_u8]; omega
  have HE := hidI hev
  have HF0 := hidI (h.fresh _ (Nat.le_refl _))
  clear hev
  clear h h0 hx hb0 hbox fT hat
  go_enter Tryz.func57, Tryz.ntmps57
  go_wp2_with fail
  try generalize (w.alloc (.cells #[.int .u8 12, .int .u8 cal, .int .u8 (ra : Int), .int .u8 (rb : Int), .int .u8 (rc : Int), .int .i64 num] 44)) = w0 at H0 HB d0 d1 d2 d3 d4 d5 rA rB rC cAt fA fB f9 hws ⊢
  clear d0 d1 d4 rC cAt fA fB f9
  go_region_held3 (fun w' => w'.cell? ⟨w.heap.size, 5, none⟩ = some (.int .i64 num) ∧ w'.cell? ⟨w.heap.size, 2, none⟩ = some (.int .u8 (ra : Int)) ∧ w'.cell? ⟨w.heap.size, 3, none⟩ = some (.int .u8 (rb : Int)) ∧ w'.cell? ⟨tb, n * 13 + 1 + ra, none⟩ = some (.int .i64 (x.th.reg ra)) ∧ w'.cell? ⟨tb, n * 13 + 1 + rb, none⟩ = some (.int .i64 (x.th.reg rb))) (first | exact ⟨d5, d2, d3, rA, rB⟩ | exact ⟨(HKC.out.cell d5 (by show ¬ (own w.heap.size = 1 ∨ own w.heap.size = 4); rw [HF0.out]; decide)), (HKC.out.cell d2 (by show ¬ (own w.heap.size = 1 ∨ own w.heap.size = 4); rw [HF0.out]; decide)), (HKC.out.cell d3 (by show ¬ (own w.heap.size = 1 ∨ own w.heap.size = 4); rw [HF0.out]; decide)), (HKC.out.cell rA (by show ¬ (own tb = 1 ∨ own tb = 4); rw [H3.out]; decide)), (HKC.out.cell rB (by show ¬ (own tb = 1 ∨ own tb = 4); rw [H3.out]; decide))⟩) (first | (go_at_call 191; refine (rtell_any H0.out.drew HE.out n num (x.th.reg ra) (x.th.reg rb)).mono ?_; rintro e w1 ⟨rfl, hp⟩; have HP := hidI hp; have HKC := hidI hp.2; clear hp; dsimp only))
  obtain ⟨⟨own', ev', hm, ho⟩, hc⟩ := HP.out
  have e9 := hm.cell HX.out 9 _ rfl
  have g9 := hm.free (by omega) (n * 13 + 9)
  have H2 := hidI hm
  have HO := hidI (show ∀ k, k < w.heap.size → own' k = own k from fun k hk => ho k (Nat.lt_of_lt_of_le hk HB.out.size))
  have HC2 := hidI (Chg.then_ (S := fun k => own k ≠ 0) (Chg.of_below HB.out.drew) hc (fun k _ e => by rcases e with e | e <;> (show own k ≠ 0; rw [e]; decide)))
  clear hm ho hc d5 d2 d3 rA rB
  go_wp2_with fail
  go_end0
  exact ⟨rfl, RGoes.at_e H2.out HX.out HO.out HC2.out (by simp [MM.act, MM.put, MM.tell, MT.next, MT.r])⟩

set_option maxRecDepth 100000 in
set_option maxHeartbeats 2000000 in
theorem rdo_load (h : RAt w base b own mm xs mv (.slice (some ⟨tb, 0, none⟩) xs.length cap) ev) (hx : xs[n]? = some x) {cal num : Int} {ra rb rc : Nat} (hra : ra < 8) (hrb : rb < 8) (hrc : rc < 8) (hat : 0 ≤ x.th.at_ ∧ x.th.at_ ≤ 262144) {a : Nat} (ha : a < mm.mem.length) (hw : x.th.wait.length ≤ 64) (hok : ∀ c ∈ x.th.wait, 0 ≤ c.1 ∧ c.1 < 262144) :
    Calls Tryz.prog 57 #[.pointer (some ⟨b, 0, none⟩), .int .i64 (n : Int), .pointer (some ⟨tb, n * 13, none⟩), .agg #[.int .u8 4, .int .u8 cal, .int .u8 (ra : Int), .int .u8 (rb : Int), .int .u8 (rc : Int), .int .i64 num], .int .i64 (a : Int)] w fun r w' => r = .returned (.tuple #[]) ∧ RGoes w base b own (mm.act n x.th ⟨4, cal, ra, rb, rc, num⟩ (a : Int)) w' := by
  obtain ⟨mb, mc, rfl, hmb⟩ := h.mslice (by omega)
  have hb0 : Below w.heap.size w (w.alloc (.cells #[.int .u8 4, .int .u8 cal, .int .u8 (ra : Int), .int .u8 (rb : Int), .int .u8 (rc : Int), .int .i64 num] 44)) := (Below.refl _ _).alloc (Nat.le_refl _) _
  have h0 := h.below hb0
  have hbox := block_new w (.cells #[.int .u8 4, .int .u8 cal, .int .u8 (ra : Int), .int .u8 (rb : Int), .int .u8 (rc : Int), .int .i64 num] 44)
  have d0 : ((w.alloc (.cells #[.int .u8 4, .int .u8 cal, .int .u8 (ra : Int), .int .u8 (rb : Int), .int .u8 (rc : Int), .int .i64 num] 44))).cell? ⟨w.heap.size, 0, none⟩ = some (.int .u8 4) := cell_of_block hbox rfl
  have d1 : ((w.alloc (.cells #[.int .u8 4, .int .u8 cal, .int .u8 (ra : Int), .int .u8 (rb : Int), .int .u8 (rc : Int), .int .i64 num] 44))).cell? ⟨w.heap.size, 1, none⟩ = some (.int .u8 cal) := cell_of_block hbox rfl
  have d2 : ((w.alloc (.cells #[.int .u8 4, .int .u8 cal, .int .u8 (ra : Int), .int .u8 (rb : Int), .int .u8 (rc : Int), .int .i64 num] 44))).cell? ⟨w.heap.size, 2, none⟩ = some (.int .u8 (ra : Int)) := cell_of_block hbox rfl
  have d3 : ((w.alloc (.cells #[.int .u8 4, .int .u8 cal, .int .u8 (ra : Int), .int .u8 (rb : Int), .int .u8 (rc : Int), .int .i64 num] 44))).cell? ⟨w.heap.size, 3, none⟩ = some (.int .u8 (rb : Int)) := cell_of_block hbox rfl
  have d4 : ((w.alloc (.cells #[.int .u8 4, .int .u8 cal, .int .u8 (ra : Int), .int .u8 (rb : Int), .int .u8 (rc : Int), .int .i64 num] 44))).cell? ⟨w.heap.size, 4, none⟩ = some (.int .u8 (rc : Int)) := cell_of_block hbox rfl
  have d5 : ((w.alloc (.cells #[.int .u8 4, .int .u8 cal, .int .u8 (ra : Int), .int .u8 (rb : Int), .int .u8 (rc : Int), .int .i64 num] 44))).cell? ⟨w.heap.size, 5, none⟩ = some (.int .i64 num) := cell_of_block hbox rfl
  have rA : ((w.alloc (.cells #[.int .u8 4, .int .u8 cal, .int .u8 (ra : Int), .int .u8 (rb : Int), .int .u8 (rc : Int), .int .i64 num] 44))).cell? ⟨tb, n * 13 + 1 + ra, none⟩ = some (.int .i64 (x.th.reg ra)) := by rw [Nat.add_assoc]; exact h0.cell hx _ _ (encR_reg x ra hra)
  have rB : ((w.alloc (.cells #[.int .u8 4, .int .u8 cal, .int .u8 (ra : Int), .int .u8 (rb : Int), .int .u8 (rc : Int), .int .i64 num] 44))).cell? ⟨tb, n * 13 + 1 + rb, none⟩ = some (.int .i64 (x.th.reg rb)) := by rw [Nat.add_assoc]; exact h0.cell hx _ _ (encR_reg x rb hrb)
  have rC : ((w.alloc (.cells #[.int .u8 4, .int .u8 cal, .int .u8 (ra : Int), .int .u8 (rb : Int), .int .u8 (rc : Int), .int .i64 num] 44))).cell? ⟨tb, n * 13 + 1 + rc, none⟩ = some (.int .i64 (x.th.reg rc)) := by rw [Nat.add_assoc]; exact h0.cell hx _ _ (encR_reg x rc hrc)
  have cAt : ((w.alloc (.cells #[.int .u8 4, .int .u8 cal, .int .u8 (ra : Int), .int .u8 (rb : Int), .int .u8 (rc : Int), .int .i64 num] 44))).cell? ⟨tb, n * 13 + 9, none⟩ = some (.int .i64 x.th.at_) := h0.cell hx 9 _ rfl
  have hws : w.heap.size < (w.alloc (.cells #[.int .u8 4, .int .u8 cal, .int .u8 (ra : Int), .int .u8 (rb : Int), .int .u8 (rc : Int), .int .i64 num] 44)).heap.size := by simp
  have hAi : (ra : Int) < 8 := by omega
  have hBi : (rb : Int) < 8 := by omega
  have hCi : (rc : Int) < 8 := by omega
  have hn : n < xs.length := (List.getElem?_eq_some_iff.1 hx).1
  have fT := h0.free (tb := tb) (by omega : 0 < xs.length)
  have fA := fT (n * 13 + 1 + ra)
  have fB := fT (n * 13 + 1 + rb)
  have f9 := fT (n * 13 + 9)
  have hw1 : IntKind.i64.wrap (x.th.at_ + 1) = x.th.at_ + 1 := IntWalk.i64_in _ (by omega)
  have hsz : ¬ w.heap.size = tb := by have := (rowLt h.ths (g := tb) rfl).2; omega
  have HX := hidI hx
  have H := hidI h
  have H0 := hidI h0
  have HB := hidI hb0
  have H3 := hidI (h.thsT tb rfl)
  have c0 := h0.wcell 0 _ rfl
  obtain ⟨M0, hM0⟩ : ∃ M0, mm.mem.getD a 0 = M0 := ⟨_, rfl⟩
  have cM := h0.mcell ha
  rw [hM0] at cM
  have HM0 := hidI (show mm.at (a : Int) = M0 from hM0)
  clear hM0
  have fM := h0.mfree (by omega : 0 < mm.mem.length) a
  have HW := hidI hw
  have HOK := hidI hok
  have HAM := hidI ha
  clear hw hok
  clear h h0 hx hb0 hbox fT hat
  go_enter Tryz.func57, Tryz.ntmps57
  go_wp2_with fail
  try generalize (w.alloc (.cells #[.int .u8 4, .int .u8 cal, .int .u8 (ra : Int), .int .u8 (rb : Int), .int .u8 (rc : Int), .int .i64 num] 44)) = w0 at H0 HB d0 d1 d2 d3 d4 d5 rA rB rC cAt fA fB f9 hws c0 cM fM ⊢
  clear d1 d3 d4 d5 rB rC cAt c0 cM fM f9 fB
  go_region_held3 (fun w' => w'.cell? ⟨w.heap.size, 2, none⟩ = some (.int .u8 (ra : Int))) (first | exact d2 | exact (World.cell?_of_block (Below.heap_setCell _ _ _ _ hsz)).trans d2) (first | (go_at_call 193; refine (rload_any H0.out.drew HX.out HW.out HAM.out HOK.out).mono ?_; rintro r w1 ⟨rfl, d, rfl⟩; have H1 := hidI (H0.out.drewN (1 + d)); have HB1 := hidI (below_drewN HB.out (1 + d)); dsimp only))
  have h2 := (H1.out.poke HX.out { x with th := { x.th with reg := upd x.th.reg ra (mm.found x.th (a : Int)) } } (1 + ra) (.int .i64 (mm.found x.th (a : Int))) (by omega) (encR_setReg x (mm.found x.th (a : Int)) ra hra) rfl rfl rfl rfl rfl rfl)
  rw [← Nat.add_assoc] at h2
  have H2 := hidI h2
  have HC2 := hidI (Chg.then_ (S := fun k => own k ≠ 0) (Chg.of_below HB1.out) ((Chg.refl (fun k => k = tb) (w0.drewN (1 + d))).setCell (p := ⟨tb, n * 13 + 1 + ra, none⟩) (.inl rfl) (.int .i64 (mm.found x.th (a : Int)))) (fun k _ e => by rw [e]; show own tb ≠ 0; rw [H3.out]; decide))
  have e9 := H2.out.cell (set_at HX.out _) 9 _ rfl
  have g9 := H2.out.free (by rw [List.length_set]; omega) (n * 13 + 9)
  clear h2
  simp only at e9
  go_wp2_with fail
  go_end0
  exact ⟨rfl, RGoes.at_e H2.out (set_at HX.out _) (fun _ _ => rfl) HC2.out (by simp [MM.act, MM.put_put, MT.goes])⟩

set_option maxRecDepth 100000 in
set_option maxHeartbeats 2000000 in
theorem rdo_xadd (h : RAt w base b own mm xs mv (.slice (some ⟨tb, 0, none⟩) xs.length cap) ev) (hx : xs[n]? = some x) {cal num : Int} {ra rb rc : Nat} (hra : ra < 8) (hrb : rb < 8) (hrc : rc < 8) (hat : 0 ≤ x.th.at_ ∧ x.th.at_ ≤ 262144) {a : Nat} (ha : a < mm.mem.length) :
    Calls Tryz.prog 57 #[.pointer (some ⟨b, 0, none⟩), .int .i64 (n : Int), .pointer (some ⟨tb, n * 13, none⟩), .agg #[.int .u8 9, .int .u8 cal, .int .u8 (ra : Int), .int .u8 (rb : Int), .int .u8 (rc : Int), .int .i64 num], .int .i64 (a : Int)] w fun r w' => r = .returned (.tuple #[]) ∧ RGoes w base b own (mm.act n x.th ⟨9, cal, ra, rb, rc, num⟩ (a : Int)) w' := by
  obtain ⟨mb, mc, rfl, hmb⟩ := h.mslice (by omega)
  have hb0 : Below w.heap.size w (w.alloc (.cells #[.int .u8 9, .int .u8 cal, .int .u8 (ra : Int), .int .u8 (rb : Int), .int .u8 (rc : Int), .int .i64 num] 44)) := (Below.refl _ _).alloc (Nat.le_refl _) _
  have h0 := h.below hb0
  have hbox := block_new w (.cells #[.int .u8 9, .int .u8 cal, .int .u8 (ra : Int), .int .u8 (rb : Int), .int .u8 (rc : Int), .int .i64 num] 44)
  have d0 : ((w.alloc (.cells #[.int .u8 9, .int .u8 cal, .int .u8 (ra : Int), .int .u8 (rb : Int), .int .u8 (rc : Int), .int .i64 num] 44))).cell? ⟨w.heap.size, 0, none⟩ = some (.int .u8 9) := cell_of_block hbox rfl
  have d1 : ((w.alloc (.cells #[.int .u8 9, .int .u8 cal, .int .u8 (ra : Int), .int .u8 (rb : Int), .int .u8 (rc : Int), .int .i64 num] 44))).cell? ⟨w.heap.size, 1, none⟩ = some (.int .u8 cal) := cell_of_block hbox rfl
  have d2 : ((w.alloc (.cells #[.int .u8 9, .int .u8 cal, .int .u8 (ra : Int), .int .u8 (rb : Int), .int .u8 (rc : Int), .int .i64 num] 44))).cell? ⟨w.heap.size, 2, none⟩ = some (.int .u8 (ra : Int)) := cell_of_block hbox rfl
  have d3 : ((w.alloc (.cells #[.int .u8 9, .int .u8 cal, .int .u8 (ra : Int), .int .u8 (rb : Int), .int .u8 (rc : Int), .int .i64 num] 44))).cell? ⟨w.heap.size, 3, none⟩ = some (.int .u8 (rb : Int)) := cell_of_block hbox rfl
  have d4 : ((w.alloc (.cells #[.int .u8 9, .int .u8 cal, .int .u8 (ra : Int), .int .u8 (rb : Int), .int .u8 (rc : Int), .int .i64 num] 44))).cell? ⟨w.heap.size, 4, none⟩ = some (.int .u8 (rc : Int)) := cell_of_block hbox rfl
  have d5 : ((w.alloc (.cells #[.int .u8 9, .int .u8 cal, .int .u8 (ra : Int), .int .u8 (rb : Int), .int .u8 (rc : Int), .int .i64 num] 44))).cell? ⟨w.heap.size, 5, none⟩ = some (.int .i64 num) := cell_of_block hbox rfl
  have rA : ((w.alloc (.cells #[.int .u8 9, .int .u8 cal, .int .u8 (ra : Int), .int .u8 (rb : Int), .int .u8 (rc : Int), .int .i64 num] 44))).cell? ⟨tb, n * 13 + 1 + ra, none⟩ = some (.int .i64 (x.th.reg ra)) := by rw [Nat.add_assoc]; exact h0.cell hx _ _ (encR_reg x ra hra)
  have rB : ((w.alloc (.cells #[.int .u8 9, .int .u8 cal, .int .u8 (ra : Int), .int .u8 (rb : Int), .int .u8 (rc : Int), .int .i64 num] 44))).cell? ⟨tb, n * 13 + 1 + rb, none⟩ = some (.int .i64 (x.th.reg rb)) := by rw [Nat.add_assoc]; exact h0.cell hx _ _ (encR_reg x rb hrb)
  have rC : ((w.alloc (.cells #[.int .u8 9, .int .u8 cal, .int .u8 (ra : Int), .int .u8 (rb : Int), .int .u8 (rc : Int), .int .i64 num] 44))).cell? ⟨tb, n * 13 + 1 + rc, none⟩ = some (.int .i64 (x.th.reg rc)) := by rw [Nat.add_assoc]; exact h0.cell hx _ _ (encR_reg x rc hrc)
  have cAt : ((w.alloc (.cells #[.int .u8 9, .int .u8 cal, .int .u8 (ra : Int), .int .u8 (rb : Int), .int .u8 (rc : Int), .int .i64 num] 44))).cell? ⟨tb, n * 13 + 9, none⟩ = some (.int .i64 x.th.at_) := h0.cell hx 9 _ rfl
  have hws : w.heap.size < (w.alloc (.cells #[.int .u8 9, .int .u8 cal, .int .u8 (ra : Int), .int .u8 (rb : Int), .int .u8 (rc : Int), .int .i64 num] 44)).heap.size := by simp
  have hAi : (ra : Int) < 8 := by omega
  have hBi : (rb : Int) < 8 := by omega
  have hCi : (rc : Int) < 8 := by omega
  have hn : n < xs.length := (List.getElem?_eq_some_iff.1 hx).1
  have fT := h0.free (tb := tb) (by omega : 0 < xs.length)
  have fA := fT (n * 13 + 1 + ra)
  have fB := fT (n * 13 + 1 + rb)
  have f9 := fT (n * 13 + 9)
  have hw1 : IntKind.i64.wrap (x.th.at_ + 1) = x.th.at_ + 1 := IntWalk.i64_in _ (by omega)
  have hsz : ¬ w.heap.size = tb := by have := (rowLt h.ths (g := tb) rfl).2; omega
  have HX := hidI hx
  have H := hidI h
  have H0 := hidI h0
  have HB := hidI hb0
  have H3 := hidI (h.thsT tb rfl)
  have c0 := h0.wcell 0 _ rfl
  obtain ⟨M0, hM0⟩ : ∃ M0, mm.mem.getD a 0 = M0 := ⟨_, rfl⟩
  have cM := h0.mcell ha
  rw [hM0] at cM
  have HM0 := hidI (show mm.at (a : Int) = M0 from hM0)
  clear hM0
  have fM := h0.mfree (by omega : 0 < mm.mem.length) a
  obtain ⟨V, hV⟩ : ∃ V, V = w64 (M0 + x.th.reg rb) := ⟨_, rfl⟩
  have eV : IntKind.i64.wrap (M0 + x.th.reg rb) = V := by rw [hV]; exact w64_wrap _
  have HV := hidI hV
  clear hV
  have hms : ¬ w.heap.size = mb := by have := (rowLt h.mem (g := mb) rfl).2; omega
  clear h h0 hx hb0 hbox fT hat
  go_enter Tryz.func57, Tryz.ntmps57
  go_wp2_with fail
  try generalize (w.alloc (.cells #[.int .u8 9, .int .u8 cal, .int .u8 (ra : Int), .int .u8 (rb : Int), .int .u8 (rc : Int), .int .i64 num] 44)) = w0 at H0 HB d0 d1 d2 d3 d4 d5 rA rB rC cAt fA fB f9 hws c0 cM fM ⊢
  go_region
  have h2 := (H0.out.word ha (V)).drew
  have g3 : (w0.setCell ⟨mb, a, none⟩ (.int .i64 (V))).drew.cell? ⟨w.heap.size, 3, none⟩ = some (.int .u8 (rb : Int)) := cell_otherD d3 hms
  have H2 := hidI h2
  have HC2 := hidI (Chg.then_ (S := fun k => own k ≠ 0) (Chg.of_below HB.out) (((Chg.refl (fun k => k = mb) w0).setCell (p := ⟨mb, a, none⟩) (.inl rfl) (.int .i64 (V))).drew) (fun k _ e => by rw [e]; show own mb ≠ 0; rw [hmb]; decide))
  clear h2 rA rB rC cAt fA fB f9 c0 cM fM d0 d1 d2 d3 d4 d5
  generalize (w0.setCell ⟨mb, a, none⟩ (.int .i64 (V))).drew = w2 at H2 HC2 g3 ⊢
  have q2 := H2.out.cell HX.out (1 + rb) _ (encR_reg x rb hrb)
  rw [← Nat.add_assoc] at q2
  have q3 := H2.out.free (tb := tb) (by omega : 0 < xs.length) (n * 13 + 1 + rb)
  go_wp2_with fail
  go_region
  have h3 := (H2.out.poke HX.out { x with th := { x.th with reg := upd x.th.reg rb M0 } } (1 + rb) (.int .i64 M0) (by omega) (encR_setReg x M0 rb hrb) rfl rfl rfl rfl rfl rfl).drew
  rw [← Nat.add_assoc] at h3
  have e9 := h3.cell (set_at HX.out _) 9 _ rfl
  have g9 := h3.free (by rw [List.length_set]; omega) (n * 13 + 9)
  have H5 := hidI h3
  have HC3 := hidI (Chg.then_ (S := fun k => own k ≠ 0) HC2.out (((Chg.refl (fun k => k = tb) w2).setCell (p := ⟨tb, n * 13 + 1 + rb, none⟩) (.inl rfl) (.int .i64 M0)).drew) (fun k _ e => by rw [e]; show own tb ≠ 0; rw [H3.out]; decide))
  clear h3 q2 q3
  simp only at e9
  go_wp2_with fail
  go_end0
  refine ⟨rfl, RGoes.at_e H5.out (set_at HX.out _) (fun _ _ => rfl) HC3.out ?_⟩
  rw [HV.out]
  simp [MM.act, MM.put, MT.goes, MT.r, HM0.out]

set_option maxRecDepth 100000 in
set_option maxHeartbeats 2000000 in
theorem rdo_cas (h : RAt w base b own mm xs mv (.slice (some ⟨tb, 0, none⟩) xs.length cap) ev) (hx : xs[n]? = some x) {cal num : Int} {ra rb rc : Nat} (hra : ra < 8) (hrb : rb < 8) (hrc : rc < 8) (hat : 0 ≤ x.th.at_ ∧ x.th.at_ ≤ 262144) {a : Nat} (ha : a < mm.mem.length) :
    Calls Tryz.prog 57 #[.pointer (some ⟨b, 0, none⟩), .int .i64 (n : Int), .pointer (some ⟨tb, n * 13, none⟩), .agg #[.int .u8 8, .int .u8 cal, .int .u8 (ra : Int), .int .u8 (rb : Int), .int .u8 (rc : Int), .int .i64 num], .int .i64 (a : Int)] w fun r w' => r = .returned (.tuple #[]) ∧ RGoes w base b own (mm.act n x.th ⟨8, cal, ra, rb, rc, num⟩ (a : Int)) w' := by
  obtain ⟨mb, mc, rfl, hmb⟩ := h.mslice (by omega)
  have hb0 : Below w.heap.size w (w.alloc (.cells #[.int .u8 8, .int .u8 cal, .int .u8 (ra : Int), .int .u8 (rb : Int), .int .u8 (rc : Int), .int .i64 num] 44)) := (Below.refl _ _).alloc (Nat.le_refl _) _
  have h0 := h.below hb0
  have hbox := block_new w (.cells #[.int .u8 8, .int .u8 cal, .int .u8 (ra : Int), .int .u8 (rb : Int), .int .u8 (rc : Int), .int .i64 num] 44)
  have d0 : ((w.alloc (.cells #[.int .u8 8, .int .u8 cal, .int .u8 (ra : Int), .int .u8 (rb : Int), .int .u8 (rc : Int), .int .i64 num] 44))).cell? ⟨w.heap.size, 0, none⟩ = some (.int .u8 8) := cell_of_block hbox rfl
  have d1 : ((w.alloc (.cells #[.int .u8 8, .int .u8 cal, .int .u8 (ra : Int), .int .u8 (rb : Int), .int .u8 (rc : Int), .int .i64 num] 44))).cell? ⟨w.heap.size, 1, none⟩ = some (.int .u8 cal) := cell_of_block hbox rfl
  have d2 : ((w.alloc (.cells #[.int .u8 8, .int .u8 cal, .int .u8 (ra : Int), .int .u8 (rb : Int), .int .u8 (rc : Int), .int .i64 num] 44))).cell? ⟨w.heap.size, 2, none⟩ = some (.int .u8 (ra : Int)) := cell_of_block hbox rfl
  have d3 : ((w.alloc (.cells #[.int .u8 8, .int .u8 cal, .int .u8 (ra : Int), .int .u8 (rb : Int), .int .u8 (rc : Int), .int .i64 num] 44))).cell? ⟨w.heap.size, 3, none⟩ = some (.int .u8 (rb : Int)) := cell_of_block hbox rfl
  have d4 : ((w.alloc (.cells #[.int .u8 8, .int .u8 cal, .int .u8 (ra : Int), .int .u8 (rb : Int), .int .u8 (rc : Int), .int .i64 num] 44))).cell? ⟨w.heap.size, 4, none⟩ = some (.int .u8 (rc : Int)) := cell_of_block hbox rfl
  have d5 : ((w.alloc (.cells #[.int .u8 8, .int .u8 cal, .int .u8 (ra : Int), .int .u8 (rb : Int), .int .u8 (rc : Int), .int .i64 num] 44))).cell? ⟨w.heap.size, 5, none⟩ = some (.int .i64 num) := cell_of_block hbox rfl
  have rA : ((w.alloc (.cells #[.int .u8 8, .int .u8 cal, .int .u8 (ra : Int), .int .u8 (rb : Int), .int .u8 (rc : Int), .int .i64 num] 44))).cell? ⟨tb, n * 13 + 1 + ra, none⟩ = some (.int .i64 (x.th.reg ra)) := by rw [Nat.add_assoc]; exact h0.cell hx _ _ (encR_reg x ra hra)
  have rB : ((w.alloc (.cells #[.int .u8 8, .int .u8 cal, .int .u8 (ra : Int), .int .u8 (rb : Int), .int .u8 (rc : Int), .int .i64 num] 44))).cell? ⟨tb, n * 13 + 1 + rb, none⟩ = some (.int .i64 (x.th.reg rb)) := by rw [Nat.add_assoc]; exact h0.cell hx _ _ (encR_reg x rb hrb)
  have rC : ((w.alloc (.cells #[.int .u8 8, .int .u8 cal, .int .u8 (ra : Int), .int .u8 (rb : Int), .int .u8 (rc : Int), .int .i64 num] 44))).cell? ⟨tb, n * 13 + 1 + rc, none⟩ = some (.int .i64 (x.th.reg rc)) := by rw [Nat.add_assoc]; exact h0.cell hx _ _ (encR_reg x rc hrc)
  have cAt : ((w.alloc (.cells #[.int .u8 8, .int .u8 cal, .int .u8 (ra : Int), .int .u8 (rb : Int), .int .u8 (rc : Int), .int .i64 num] 44))).cell? ⟨tb, n * 13 + 9, none⟩ = some (.int .i64 x.th.at_) := h0.cell hx 9 _ rfl
  have hws : w.heap.size < (w.alloc (.cells #[.int .u8 8, .int .u8 cal, .int .u8 (ra : Int), .int .u8 (rb : Int), .int .u8 (rc : Int), .int .i64 num] 44)).heap.size := by simp
  have hAi : (ra : Int) < 8 := by omega
  have hBi : (rb : Int) < 8 := by omega
  have hCi : (rc : Int) < 8 := by omega
  have hn : n < xs.length := (List.getElem?_eq_some_iff.1 hx).1
  have fT := h0.free (tb := tb) (by omega : 0 < xs.length)
  have fA := fT (n * 13 + 1 + ra)
  have fB := fT (n * 13 + 1 + rb)
  have f9 := fT (n * 13 + 9)
  have hw1 : IntKind.i64.wrap (x.th.at_ + 1) = x.th.at_ + 1 := IntWalk.i64_in _ (by omega)
  have hsz : ¬ w.heap.size = tb := by have := (rowLt h.ths (g := tb) rfl).2; omega
  have HX := hidI hx
  have H := hidI h
  have H0 := hidI h0
  have HB := hidI hb0
  have H3 := hidI (h.thsT tb rfl)
  have c0 := h0.wcell 0 _ rfl
  obtain ⟨M0, hM0⟩ : ∃ M0, mm.mem.getD a 0 = M0 := ⟨_, rfl⟩
  have cM := h0.mcell ha
  rw [hM0] at cM
  have HM0 := hidI (show mm.at (a : Int) = M0 from hM0)
  clear hM0
  have fM := h0.mfree (by omega : 0 < mm.mem.length) a
  have hms : ¬ w.heap.size = mb := by have := (rowLt h.mem (g := mb) rfl).2; omega
  clear h h0 hx hb0 hbox fT hat
  go_enter Tryz.func57, Tryz.ntmps57
  go_wp2_with fail
  try generalize (w.alloc (.cells #[.int .u8 8, .int .u8 cal, .int .u8 (ra : Int), .int .u8 (rb : Int), .int .u8 (rc : Int), .int .i64 num] 44)) = w0 at H0 HB d0 d1 d2 d3 d4 d5 rA rB rC cAt fA fB f9 hws c0 cM fM ⊢
  by_cases he : M0 = x.th.reg rb
  · have hb1 : (M0 == x.th.reg rb) = true := by simpa using he
    have HE := hidI he
    clear he
    go_quiet (fail)
    go_wp2_with fail
    have d3' : (w0.drewN nq).cell? ⟨w.heap.size, 3, none⟩ = some (.int .u8 (rb : Int)) := d3
    have d4' : (w0.drewN nq).cell? ⟨w.heap.size, 4, none⟩ = some (.int .u8 (rc : Int)) := d4
    have rC' : (w0.drewN nq).cell? ⟨tb, n * 13 + 1 + rc, none⟩ = some (.int .i64 (x.th.reg rc)) := rC
    have c0' : (w0.drewN nq).cell? ⟨b, 0, none⟩ = some (.slice (some ⟨mb, 0, none⟩) mm.mem.length mc) := c0
    have cM' : (w0.drewN nq).cell? ⟨mb, a, none⟩ = some (.int .i64 M0) := cM
    have fM' : (w0.drewN nq).frozen? ⟨mb, a, none⟩ = false := fM
    have H1 := hidI (H0.out.drewN nq)
    have HB1 := hidI (below_drewN HB.out nq)
    clear rA rB rC cAt fA fB f9 c0 cM fM d0 d1 d2 d3 d4 d5 hws
    generalize w0.drewN nq = w1 at H1 HB1 d3' d4' rC' c0' cM' fM' ⊢
    go_region
    have h2 := (H1.out.word ha (x.th.reg rc)).drew
    have g3 : (w1.setCell ⟨mb, a, none⟩ (.int .i64 (x.th.reg rc))).drew.cell? ⟨w.heap.size, 3, none⟩ = some (.int .u8 (rb : Int)) := cell_otherD d3' hms
    have H2 := hidI h2
    have HC2 := hidI (Chg.then_ (S := fun k => own k ≠ 0) (Chg.of_below HB1.out) (((Chg.refl (fun k => k = mb) w1).setCell (p := ⟨mb, a, none⟩) (.inl rfl) (.int .i64 (x.th.reg rc))).drew) (fun k _ e => by rw [e]; show own mb ≠ 0; rw [hmb]; decide))
    clear h2 d3' d4' rC' c0' cM' fM'
    generalize (w1.setCell ⟨mb, a, none⟩ (.int .i64 (x.th.reg rc))).drew = w2 at H2 HC2 g3 ⊢
    have q2 := H2.out.cell HX.out (1 + rb) _ (encR_reg x rb hrb)
    rw [← Nat.add_assoc] at q2
    have q3 := H2.out.free (tb := tb) (by omega : 0 < xs.length) (n * 13 + 1 + rb)
    go_wp2_with fail
    go_region
    have h3 := (H2.out.poke HX.out { x with th := { x.th with reg := upd x.th.reg rb M0 } } (1 + rb) (.int .i64 M0) (by omega) (encR_setReg x M0 rb hrb) rfl rfl rfl rfl rfl rfl).drew
    rw [← Nat.add_assoc] at h3
    have e9 := h3.cell (set_at HX.out _) 9 _ rfl
    have g9 := h3.free (by rw [List.length_set]; omega) (n * 13 + 9)
    have H5 := hidI h3
    have HC3 := hidI (Chg.then_ (S := fun k => own k ≠ 0) HC2.out (((Chg.refl (fun k => k = tb) w2).setCell (p := ⟨tb, n * 13 + 1 + rb, none⟩) (.inl rfl) (.int .i64 M0)).drew) (fun k _ e => by rw [e]; show own tb ≠ 0; rw [H3.out]; decide))
    clear h3 q2 q3
    simp only at e9
    go_wp2_with fail
    go_end0
    exact ⟨rfl, RGoes.at_e H5.out (set_at HX.out _) (fun _ _ => rfl) HC3.out (by simp [MM.act, MM.put, MT.goes, MT.r, HM0.out, HE.out])⟩
  · have hb1 : (M0 == x.th.reg rb) = false := by simpa using he
    have HE := hidI he
    clear he
    go_quiet (fail)
    go_wp2_with fail
    have d3' : (w0.drewN nq).cell? ⟨w.heap.size, 3, none⟩ = some (.int .u8 (rb : Int)) := d3
    have rB' : (w0.drewN nq).cell? ⟨tb, n * 13 + 1 + rb, none⟩ = some (.int .i64 (x.th.reg rb)) := rB
    have fB' : (w0.drewN nq).frozen? ⟨tb, n * 13 + 1 + rb, none⟩ = false := fB
    have H1 := hidI (H0.out.drewN nq)
    have HB1 := hidI (below_drewN HB.out nq)
    clear rA rB rC cAt fA fB f9 c0 cM fM d0 d1 d2 d3 d4 d5 hws
    generalize w0.drewN nq = w1 at H1 HB1 d3' rB' fB' ⊢
    go_region
    have h2 := (H1.out.poke HX.out { x with th := { x.th with reg := upd x.th.reg rb M0 } } (1 + rb) (.int .i64 M0) (by omega) (encR_setReg x M0 rb hrb) rfl rfl rfl rfl rfl rfl).drew
    rw [← Nat.add_assoc] at h2
    have e9 := h2.cell (set_at HX.out _) 9 _ rfl
    have g9 := h2.free (by rw [List.length_set]; omega) (n * 13 + 9)
    have H2 := hidI h2
    have HC2 := hidI (Chg.then_ (S := fun k => own k ≠ 0) (Chg.of_below HB1.out) (((Chg.refl (fun k => k = tb) w1).setCell (p := ⟨tb, n * 13 + 1 + rb, none⟩) (.inl rfl) (.int .i64 M0)).drew) (fun k _ e => by rw [e]; show own tb ≠ 0; rw [H3.out]; decide))
    clear h2 d3' rB' fB'
    simp only at e9
    go_wp2_with fail
    go_end0
    exact ⟨rfl, RGoes.at_e H2.out (set_at HX.out _) (fun _ _ => rfl) HC2.out (by simp [MM.act, MM.put, MT.goes, MT.r, HM0.out, HE.out])⟩

set_option maxRecDepth 100000 in
set_option maxHeartbeats 2000000 in
theorem rdo_look (h : RAt w base b own mm xs mv (.slice (some ⟨tb, 0, none⟩) xs.length cap) ev) (hx : xs[n]? = some x) {cal num : Int} {ra rb rc : Nat} (hra : ra < 8) (hrb : rb < 8) (hrc : rc < 8) (hat : 0 ≤ x.th.at_ ∧ x.th.at_ ≤ 262144) {a : Nat} (ha : a < mm.mem.length) (hw : x.th.wait.length ≤ 64) (hok : ∀ c ∈ x.th.wait, 0 ≤ c.1 ∧ c.1 < 262144) (hev : mm.evs.length < 2000000000) :
    Calls Tryz.prog 57 #[.pointer (some ⟨b, 0, none⟩), .int .i64 (n : Int), .pointer (some ⟨tb, n * 13, none⟩), .agg #[.int .u8 15, .int .u8 cal, .int .u8 (ra : Int), .int .u8 (rb : Int), .int .u8 (rc : Int), .int .i64 num], .int .i64 (a : Int)] w fun r w' => r = .returned (.tuple #[]) ∧ RGoes w base b own (mm.act n x.th ⟨15, cal, ra, rb, rc, num⟩ (a : Int)) w' := by
  obtain ⟨mb, mc, rfl, hmb⟩ := h.mslice (by omega)
  have hb0 : Below w.heap.size w (w.alloc (.cells #[.int .u8 15, .int .u8 cal, .int .u8 (ra : Int), .int .u8 (rb : Int), .int .u8 (rc : Int), .int .i64 num] 44)) := (Below.refl _ _).alloc (Nat.le_refl _) _
  have h0 := h.below hb0
  have hbox := block_new w (.cells #[.int .u8 15, .int .u8 cal, .int .u8 (ra : Int), .int .u8 (rb : Int), .int .u8 (rc : Int), .int .i64 num] 44)
  have d0 : ((w.alloc (.cells #[.int .u8 15, .int .u8 cal, .int .u8 (ra : Int), .int .u8 (rb : Int), .int .u8 (rc : Int), .int .i64 num] 44))).cell? ⟨w.heap.size, 0, none⟩ = some (.int .u8 15) := cell_of_block hbox rfl
  have d1 : ((w.alloc (.cells #[.int .u8 15, .int .u8 cal, .int .u8 (ra : Int), .int .u8 (rb : Int), .int .u8 (rc : Int), .int .i64 num] 44))).cell? ⟨w.heap.size, 1, none⟩ = some (.int .u8 cal) := cell_of_block hbox rfl
  have d2 : ((w.alloc (.cells #[.int .u8 15, .int .u8 cal, .int .u8 (ra : Int), .int .u8 (rb : Int), .int .u8 (rc : Int), .int .i64 num] 44))).cell? ⟨w.heap.size, 2, none⟩ = some (.int .u8 (ra : Int)) := cell_of_block hbox rfl
  have d3 : ((w.alloc (.cells #[.int .u8 15, .int .u8 cal, .int .u8 (ra : Int), .int .u8 (rb : Int), .int .u8 (rc : Int), .int .i64 num] 44))).cell? ⟨w.heap.size, 3, none⟩ = some (.int .u8 (rb : Int)) := cell_of_block hbox rfl
  have d4 : ((w.alloc (.cells #[.int .u8 15, .int .u8 cal, .int .u8 (ra : Int), .int .u8 (rb : Int), .int .u8 (rc : Int), .int .i64 num] 44))).cell? ⟨w.heap.size, 4, none⟩ = some (.int .u8 (rc : Int)) := cell_of_block hbox rfl
  have d5 : ((w.alloc (.cells #[.int .u8 15, .int .u8 cal, .int .u8 (ra : Int), .int .u8 (rb : Int), .int .u8 (rc : Int), .int .i64 num] 44))).cell? ⟨w.heap.size, 5, none⟩ = some (.int .i64 num) := cell_of_block hbox rfl
  have rA : ((w.alloc (.cells #[.int .u8 15, .int .u8 cal, .int .u8 (ra : Int), .int .u8 (rb : Int), .int .u8 (rc : Int), .int .i64 num] 44))).cell? ⟨tb, n * 13 + 1 + ra, none⟩ = some (.int .i64 (x.th.reg ra)) := by rw [Nat.add_assoc]; exact h0.cell hx _ _ (encR_reg x ra hra)
  have rB : ((w.alloc (.cells #[.int .u8 15, .int .u8 cal, .int .u8 (ra : Int), .int .u8 (rb : Int), .int .u8 (rc : Int), .int .i64 num] 44))).cell? ⟨tb, n * 13 + 1 + rb, none⟩ = some (.int .i64 (x.th.reg rb)) := by rw [Nat.add_assoc]; exact h0.cell hx _ _ (encR_reg x rb hrb)
  have rC : ((w.alloc (.cells #[.int .u8 15, .int .u8 cal, .int .u8 (ra : Int), .int .u8 (rb : Int), .int .u8 (rc : Int), .int .i64 num] 44))).cell? ⟨tb, n * 13 + 1 + rc, none⟩ = some (.int .i64 (x.th.reg rc)) := by rw [Nat.add_assoc]; exact h0.cell hx _ _ (encR_reg x rc hrc)
  have cAt : ((w.alloc (.cells #[.int .u8 15, .int .u8 cal, .int .u8 (ra : Int), .int .u8 (rb : Int), .int .u8 (rc : Int), .int .i64 num] 44))).cell? ⟨tb, n * 13 + 9, none⟩ = some (.int .i64 x.th.at_) := h0.cell hx 9 _ rfl
  have hws : w.heap.size < (w.alloc (.cells #[.int .u8 15, .int .u8 cal, .int .u8 (ra : Int), .int .u8 (rb : Int), .int .u8 (rc : Int), .int .i64 num] 44)).heap.size := by simp
  have hAi : (ra : Int) < 8 := by omega
  have hBi : (rb : Int) < 8 := by omega
  have hCi : (rc : Int) < 8 := by omega
  have hn : n < xs.length := (List.getElem?_eq_some_iff.1 hx).1
  have fT := h0.free (tb := tb) (by omega : 0 < xs.length)
  have fA := fT (n * 13 + 1 + ra)
  have fB := fT (n * 13 + 1 + rb)
  have f9 := fT (n * 13 + 9)
  have hw1 : IntKind.i64.wrap (x.th.at_ + 1) = x.th.at_ + 1 := IntWalk.i64_in _ (by omega)
  have hsz : ¬ w.heap.size = tb := by have := (rowLt h.ths (g := tb) rfl).2; omega
  have HX := hidI hx
  have H := hidI h
  have H0 := hidI h0
  have HB := hidI hb0
  have H3 := hidI (h.thsT tb rfl)
  have c0 := h0.wcell 0 _ rfl
  obtain ⟨M0, hM0⟩ : ∃ M0, mm.mem.getD a 0 = M0 := ⟨_, rfl⟩
  have cM := h0.mcell ha
  rw [hM0] at cM
  have HM0 := hidI (show mm.at (a : Int) = M0 from hM0)
  clear hM0
  have fM := h0.mfree (by omega : 0 < mm.mem.length) a
  have HW := hidI hw
  have HOK := hidI hok
  have HAM := hidI ha
  clear hw hok
  have HE := hidI hev
  have HF0 := hidI (h.fresh _ (Nat.le_refl _))
  clear hev
  clear h h0 hx hb0 hbox fT hat
  go_enter Tryz.func57, Tryz.ntmps57
  go_wp2_with fail
  try generalize (w.alloc (.cells #[.int .u8 15, .int .u8 cal, .int .u8 (ra : Int), .int .u8 (rb : Int), .int .u8 (rc : Int), .int .i64 num] 44)) = w0 at H0 HB d0 d1 d2 d3 d4 d5 rA rB rC cAt fA fB f9 hws c0 cM fM ⊢
  clear d1 d3 d4 d5 rB rC cAt c0 cM fM f9 fB
  go_region_held3 (fun w' => w'.cell? ⟨w.heap.size, 2, none⟩ = some (.int .u8 (ra : Int))) (first | exact d2 | exact (World.cell?_of_block (Below.heap_setCell _ _ _ _ hsz)).trans d2) (first | (go_at_call 193; refine (rload_any H0.out.drew HX.out HW.out HAM.out HOK.out).mono ?_; rintro r w1 ⟨rfl, d, rfl⟩; have H1 := hidI (H0.out.drewN (1 + d)); have HB1 := hidI (below_drewN HB.out (1 + d)); dsimp only))
  have h2 := (H1.out.poke HX.out { x with th := { x.th with reg := upd x.th.reg ra (mm.found x.th (a : Int)) } } (1 + ra) (.int .i64 (mm.found x.th (a : Int))) (by omega) (encR_setReg x (mm.found x.th (a : Int)) ra hra) rfl rfl rfl rfl rfl rfl)
  rw [← Nat.add_assoc] at h2
  have H2 := hidI h2
  have HC2 := hidI (Chg.then_ (S := fun k => own k ≠ 0) (Chg.of_below HB1.out) ((Chg.refl (fun k => k = tb) (w0.drewN (1 + d))).setCell (p := ⟨tb, n * 13 + 1 + ra, none⟩) (.inl rfl) (.int .i64 (mm.found x.th (a : Int)))) (fun k _ e => by rw [e]; show own tb ≠ 0; rw [H3.out]; decide))
  have gA : ((w0.drewN (1 + d)).setCell ⟨tb, n * 13 + 1 + ra, none⟩ (.int .i64 (mm.found x.th (a : Int)))).cell? ⟨tb, n * 13 + 1 + ra, none⟩ = some (.int .i64 (mm.found x.th (a : Int))) := by
    have gA := H2.out.cell (set_at HX.out _) (1 + ra) _ (encR_reg _ ra hra)
    rw [← Nat.add_assoc] at gA
    simpa [upd] using gA
  have g2 : ((w0.drewN (1 + d)).setCell ⟨tb, n * 13 + 1 + ra, none⟩ (.int .i64 (mm.found x.th (a : Int)))).cell? ⟨w.heap.size, 2, none⟩ = some (.int .u8 (ra : Int)) := (World.cell?_of_block (Below.heap_setCell _ _ _ _ hsz)).trans (show (w0.drewN (1 + d)).cell? ⟨w.heap.size, 2, none⟩ = some (.int .u8 (ra : Int)) from d2)
  clear h2 d2 rA fA d0
  generalize ((w0.drewN (1 + d)).setCell ⟨tb, n * 13 + 1 + ra, none⟩ (.int .i64 (mm.found x.th (a : Int)))) = w2 at H2 HC2 gA g2 ⊢
  go_wp2_with fail
  go_region_held3 (fun w' => w'.cell? ⟨w.heap.size, 2, none⟩ = some (.int .u8 (ra : Int)) ∧ w'.cell? ⟨tb, n * 13 + 1 + ra, none⟩ = some (.int .i64 (mm.found x.th (a : Int)))) (first | exact ⟨g2, gA⟩ | exact ⟨HKC.out.cell g2 (by show ¬ (own w.heap.size = 1 ∨ own w.heap.size = 4); rw [HF0.out]; decide), HKC.out.cell gA (by show ¬ (own tb = 1 ∨ own tb = 4); rw [H3.out]; decide)⟩) (first | (go_at_call 191; refine (rtell_any H2.out.drew HE.out n 1 (mm.found x.th (a : Int)) 0).mono ?_; rintro e w1 ⟨rfl, hp⟩; have HP := hidI hp; have HKC := hidI hp.2; clear hp; dsimp only))
  obtain ⟨⟨own', ev', hm, ho⟩, hc⟩ := HP.out
  have e9 := hm.cell (set_at HX.out _) 9 _ rfl
  have g9 := hm.free (by rw [List.length_set]; omega) (n * 13 + 9)
  have H5 := hidI hm
  have HO := hidI (show ∀ k, k < w.heap.size → own' k = own k from fun k hk => ho k (Nat.lt_of_lt_of_le hk HC2.out.size))
  have HC3 := hidI (Chg.then_ (S := fun k => own k ≠ 0) HC2.out.drew hc (fun k _ e => by rcases e with e | e <;> (show own k ≠ 0; rw [e]; decide)))
  clear hm ho hc gA g2
  simp only at e9
  go_wp2_with fail
  go_end0
  exact ⟨rfl, RGoes.at_e H5.out (set_at HX.out _) HO.out HC3.out (by simp [MM.act, MM.put, MM.tell, MT.goes])⟩

set_option maxRecDepth 100000 in
set_option maxHeartbeats 2000000 in
theorem rdo_calc (h : RAt w base b own mm xs mv (.slice (some ⟨tb, 0, none⟩) xs.length cap) ev) (hx : xs[n]? = some x) {cal num : Int} {ra rb rc : Nat} (hra : ra < 8) (hrb : rb < 8) (hrc : rc < 8) (hat : 0 ≤ x.th.at_ ∧ x.th.at_ ≤ 262144) (a : Int) (hev : mm.evs.length < 2000000000) (h4 : xs.length ≤ 4) :
    Calls Tryz.prog 57 #[.pointer (some ⟨b, 0, none⟩), .int .i64 (n : Int), .pointer (some ⟨tb, n * 13, none⟩), .agg #[.int .u8 3, .int .u8 cal, .int .u8 (ra : Int), .int .u8 (rb : Int), .int .u8 (rc : Int), .int .i64 num], .int .i64 a] w fun r w' => r = .returned (.tuple #[]) ∧ RGoes w base b own (mm.act n x.th ⟨3, cal, ra, rb, rc, num⟩ a) w' := by
  have hb0 : Below w.heap.size w (w.alloc (.cells #[.int .u8 3, .int .u8 cal, .int .u8 (ra : Int), .int .u8 (rb : Int), .int .u8 (rc : Int), .int .i64 num] 44)) := (Below.refl _ _).alloc (Nat.le_refl _) _
  have h0 := h.below hb0
  have hbox := block_new w (.cells #[.int .u8 3, .int .u8 cal, .int .u8 (ra : Int), .int .u8 (rb : Int), .int .u8 (rc : Int), .int .i64 num] 44)
  have d0 : ((w.alloc (.cells #[.int .u8 3, .int .u8 cal, .int .u8 (ra : Int), .int .u8 (rb : Int), .int .u8 (rc : Int), .int .i64 num] 44))).cell? ⟨w.heap.size, 0, none⟩ = some (.int .u8 3) := cell_of_block hbox rfl
  have d1 : ((w.alloc (.cells #[.int .u8 3, .int .u8 cal, .int .u8 (ra : Int), .int .u8 (rb : Int), .int .u8 (rc : Int), .int .i64 num] 44))).cell? ⟨w.heap.size, 1, none⟩ = some (.int .u8 cal) := cell_of_block hbox rfl
  have d2 : ((w.alloc (.cells #[.int .u8 3, .int .u8 cal, .int .u8 (ra : Int), .int .u8 (rb : Int), .int .u8 (rc : Int), .int .i64 num] 44))).cell? ⟨w.heap.size, 2, none⟩ = some (.int .u8 (ra : Int)) := cell_of_block hbox rfl
  have d3 : ((w.alloc (.cells #[.int .u8 3, .int .u8 cal, .int .u8 (ra : Int), .int .u8 (rb : Int), .int .u8 (rc : Int), .int .i64 num] 44))).cell? ⟨w.heap.size, 3, none⟩ = some (.int .u8 (rb : Int)) := cell_of_block hbox rfl
  have d4 : ((w.alloc (.cells #[.int .u8 3, .int .u8 cal, .int .u8 (ra : Int), .int .u8 (rb : Int), .int .u8 (rc : Int), .int .i64 num] 44))).cell? ⟨w.heap.size, 4, none⟩ = some (.int .u8 (rc : Int)) := cell_of_block hbox rfl
  have d5 : ((w.alloc (.cells #[.int .u8 3, .int .u8 cal, .int .u8 (ra : Int), .int .u8 (rb : Int), .int .u8 (rc : Int), .int .i64 num] 44))).cell? ⟨w.heap.size, 5, none⟩ = some (.int .i64 num) := cell_of_block hbox rfl
  have rA : ((w.alloc (.cells #[.int .u8 3, .int .u8 cal, .int .u8 (ra : Int), .int .u8 (rb : Int), .int .u8 (rc : Int), .int .i64 num] 44))).cell? ⟨tb, n * 13 + 1 + ra, none⟩ = some (.int .i64 (x.th.reg ra)) := by rw [Nat.add_assoc]; exact h0.cell hx _ _ (encR_reg x ra hra)
  have rB : ((w.alloc (.cells #[.int .u8 3, .int .u8 cal, .int .u8 (ra : Int), .int .u8 (rb : Int), .int .u8 (rc : Int), .int .i64 num] 44))).cell? ⟨tb, n * 13 + 1 + rb, none⟩ = some (.int .i64 (x.th.reg rb)) := by rw [Nat.add_assoc]; exact h0.cell hx _ _ (encR_reg x rb hrb)
  have rC : ((w.alloc (.cells #[.int .u8 3, .int .u8 cal, .int .u8 (ra : Int), .int .u8 (rb : Int), .int .u8 (rc : Int), .int .i64 num] 44))).cell? ⟨tb, n * 13 + 1 + rc, none⟩ = some (.int .i64 (x.th.reg rc)) := by rw [Nat.add_assoc]; exact h0.cell hx _ _ (encR_reg x rc hrc)
  have cAt : ((w.alloc (.cells #[.int .u8 3, .int .u8 cal, .int .u8 (ra : Int), .int .u8 (rb : Int), .int .u8 (rc : Int), .int .i64 num] 44))).cell? ⟨tb, n * 13 + 9, none⟩ = some (.int .i64 x.th.at_) := h0.cell hx 9 _ rfl
  have hws : w.heap.size < (w.alloc (.cells #[.int .u8 3, .int .u8 cal, .int .u8 (ra : Int), .int .u8 (rb : Int), .int .u8 (rc : Int), .int .i64 num] 44)).heap.size := by simp
  have hAi : (ra : Int) < 8 := by omega
  have hBi : (rb : Int) < 8 := by omega
  have hCi : (rc : Int) < 8 := by omega
  have hn : n < xs.length := (List.getElem?_eq_some_iff.1 hx).1
  have fT := h0.free (tb := tb) (by omega : 0 < xs.length)
  have fA := fT (n * 13 + 1 + ra)
  have fB := fT (n * 13 + 1 + rb)
  have f9 := fT (n * 13 + 9)
  have hw1 : IntKind.i64.wrap (x.th.at_ + 1) = x.th.at_ + 1 := IntWalk.i64_in _ (by omega)
  have hsz : ¬ w.heap.size = tb := by have := (rowLt h.ths (g := tb) rfl).2; omega
  have HX := hidI hx
  have H := hidI h
  have H0 := hidI h0
  have HB := hidI hb0
  have H3 := hidI (h.thsT tb rfl)
  have HE := hidI hev
  have H4 := hidI h4
  clear hev h4
  clear h h0 hx hb0 hbox fT hat
  go_enter Tryz.func57, Tryz.ntmps57
  go_wp2_with fail
  try generalize (w.alloc (.cells #[.int .u8 3, .int .u8 cal, .int .u8 (ra : Int), .int .u8 (rb : Int), .int .u8 (rc : Int), .int .i64 num] 44)) = w0 at H0 HB d0 d1 d2 d3 d4 d5 rA rB rC cAt fA fB f9 hws ⊢
  go_region_held3 (fun w' => w'.cell? ⟨w.heap.size, 1, none⟩ = some (.int .u8 cal) ∧ w'.cell? ⟨w.heap.size, 2, none⟩ = some (.int .u8 (ra : Int)) ∧ w'.cell? ⟨w.heap.size, 3, none⟩ = some (.int .u8 (rb : Int)) ∧ w'.cell? ⟨tb, n * 13 + 1 + ra, none⟩ = some (.int .i64 (x.th.reg ra)) ∧ w'.cell? ⟨tb, n * 13 + 1 + rb, none⟩ = some (.int .i64 (x.th.reg rb))) (exact ⟨d1, d2, d3, rA, rB⟩) (first | (go_at_call 192; refine (rdo_any _ cal (x.th.reg ra) (x.th.reg rb)).mono ?_; rintro r w1 ⟨rfl, rfl⟩; dsimp only))
  have d2' : w0.drew.cell? ⟨w.heap.size, 2, none⟩ = some (.int .u8 (ra : Int)) := d2
  have rA' : w0.drew.cell? ⟨tb, n * 13 + 1 + ra, none⟩ = some (.int .i64 (x.th.reg ra)) := rA
  have fA' : w0.drew.frozen? ⟨tb, n * 13 + 1 + ra, none⟩ = false := fA
  have H1 := hidI H0.out.drew
  have HB1 := hidI HB.out.drew
  clear d0 d1 d2 d3 d4 d5 rA rB rC cAt fA fB f9 hws H0 HB
  generalize w0.drew = w1 at *
  cases hf : calcS cal (x.th.reg ra) (x.th.reg rb) with
  | some v =>
    rw [doV_some hf, doE_some hf]
    have HF := hidI hf
    clear hf
    go_wp2_with fail
    go_region
    have h2 := (H1.out.poke HX.out { x with th := { x.th with reg := upd x.th.reg ra v } } (1 + ra) (.int .i64 v) (by omega) (encR_setReg x v ra hra) rfl rfl rfl rfl rfl rfl).drew
    rw [← Nat.add_assoc] at h2
    have e9 := h2.cell (set_at HX.out _) 9 _ rfl
    have g9 := h2.free (by rw [List.length_set]; omega) (n * 13 + 9)
    have H2 := hidI h2
    have HC2 := hidI (Chg.then_ (S := fun k => own k ≠ 0) (Chg.of_below HB1.out) (((Chg.refl (fun k => k = tb) w1).setCell (p := ⟨tb, n * 13 + 1 + ra, none⟩) (.inl rfl) (.int .i64 v)).drew) (fun k _ e => by rw [e]; show own tb ≠ 0; rw [H3.out]; decide))
    clear h2 d2' rA' fA'
    simp only at e9
    go_wp2_with fail
    go_end0
    exact ⟨rfl, RGoes.at_e H2.out (set_at HX.out _) (fun _ _ => rfl) HC2.out (by simp [MM.act, MM.put, MT.goes, MT.r, HF.out])⟩
  | none =>
    rw [doV_none hf, doE_none hf]
    have HF := hidI hf
    generalize hg : (if cal = 4 ∨ cal = 5 then (4 : Int) else 1) = E
    have hE : (E == 0) = false := by rw [← hg]; split <;> rfl
    clear hf hg
    go_wp2_with fail
    refine (rend_any H1.out HX.out HE.out H4.out 2 (by omega)).mono ?_
    rintro r w2 ⟨rfl, hg⟩
    have HG := hidI hg
    clear hg
    go_wp2_with fail
    try simp only [Exit.inBlock, Exit.then]
    refine bodyPost_ret (results_none rfl _ _ _) rfl ?_
    exact ⟨rfl, by have := RGoes.after HB1.out HG.out (fun k hk => H.out.fresh k hk); simpa [MM.act, MT.r, HF.out] using this⟩

set_option maxRecDepth 100000 in
set_option maxHeartbeats 2000000 in
theorem rdo_out (h : RAt w base b own mm xs mv (.slice (some ⟨tb, 0, none⟩) xs.length cap) ev) (hx : xs[n]? = some x) {cal num : Int} {ra rb rc : Nat} (hra : ra < 8) (hrb : rb < 8) (hrc : rc < 8) (hat : 0 ≤ x.th.at_ ∧ x.th.at_ ≤ 262144) (a : Int) (hol : x.th.out.length < 1000000000) (hev : mm.evs.length < 2000000000) :
    Calls Tryz.prog 57 #[.pointer (some ⟨b, 0, none⟩), .int .i64 (n : Int), .pointer (some ⟨tb, n * 13, none⟩), .agg #[.int .u8 11, .int .u8 cal, .int .u8 (ra : Int), .int .u8 (rb : Int), .int .u8 (rc : Int), .int .i64 num], .int .i64 a] w fun r w' => r = .returned (.tuple #[]) ∧ RGoes w base b own (mm.act n x.th ⟨11, cal, ra, rb, rc, num⟩ a) w' := by
  have hb0 : Below w.heap.size w (w.alloc (.cells #[.int .u8 11, .int .u8 cal, .int .u8 (ra : Int), .int .u8 (rb : Int), .int .u8 (rc : Int), .int .i64 num] 44)) := (Below.refl _ _).alloc (Nat.le_refl _) _
  have h0 := h.below hb0
  have hbox := block_new w (.cells #[.int .u8 11, .int .u8 cal, .int .u8 (ra : Int), .int .u8 (rb : Int), .int .u8 (rc : Int), .int .i64 num] 44)
  have d0 : ((w.alloc (.cells #[.int .u8 11, .int .u8 cal, .int .u8 (ra : Int), .int .u8 (rb : Int), .int .u8 (rc : Int), .int .i64 num] 44))).cell? ⟨w.heap.size, 0, none⟩ = some (.int .u8 11) := cell_of_block hbox rfl
  have d1 : ((w.alloc (.cells #[.int .u8 11, .int .u8 cal, .int .u8 (ra : Int), .int .u8 (rb : Int), .int .u8 (rc : Int), .int .i64 num] 44))).cell? ⟨w.heap.size, 1, none⟩ = some (.int .u8 cal) := cell_of_block hbox rfl
  have d2 : ((w.alloc (.cells #[.int .u8 11, .int .u8 cal, .int .u8 (ra : Int), .int .u8 (rb : Int), .int .u8 (rc : Int), .int .i64 num] 44))).cell? ⟨w.heap.size, 2, none⟩ = some (.int .u8 (ra : Int)) := cell_of_block hbox rfl
  have d3 : ((w.alloc (.cells #[.int .u8 11, .int .u8 cal, .int .u8 (ra : Int), .int .u8 (rb : Int), .int .u8 (rc : Int), .int .i64 num] 44))).cell? ⟨w.heap.size, 3, none⟩ = some (.int .u8 (rb : Int)) := cell_of_block hbox rfl
  have d4 : ((w.alloc (.cells #[.int .u8 11, .int .u8 cal, .int .u8 (ra : Int), .int .u8 (rb : Int), .int .u8 (rc : Int), .int .i64 num] 44))).cell? ⟨w.heap.size, 4, none⟩ = some (.int .u8 (rc : Int)) := cell_of_block hbox rfl
  have d5 : ((w.alloc (.cells #[.int .u8 11, .int .u8 cal, .int .u8 (ra : Int), .int .u8 (rb : Int), .int .u8 (rc : Int), .int .i64 num] 44))).cell? ⟨w.heap.size, 5, none⟩ = some (.int .i64 num) := cell_of_block hbox rfl
  have rA : ((w.alloc (.cells #[.int .u8 11, .int .u8 cal, .int .u8 (ra : Int), .int .u8 (rb : Int), .int .u8 (rc : Int), .int .i64 num] 44))).cell? ⟨tb, n * 13 + 1 + ra, none⟩ = some (.int .i64 (x.th.reg ra)) := by rw [Nat.add_assoc]; exact h0.cell hx _ _ (encR_reg x ra hra)
  have rB : ((w.alloc (.cells #[.int .u8 11, .int .u8 cal, .int .u8 (ra : Int), .int .u8 (rb : Int), .int .u8 (rc : Int), .int .i64 num] 44))).cell? ⟨tb, n * 13 + 1 + rb, none⟩ = some (.int .i64 (x.th.reg rb)) := by rw [Nat.add_assoc]; exact h0.cell hx _ _ (encR_reg x rb hrb)
  have rC : ((w.alloc (.cells #[.int .u8 11, .int .u8 cal, .int .u8 (ra : Int), .int .u8 (rb : Int), .int .u8 (rc : Int), .int .i64 num] 44))).cell? ⟨tb, n * 13 + 1 + rc, none⟩ = some (.int .i64 (x.th.reg rc)) := by rw [Nat.add_assoc]; exact h0.cell hx _ _ (encR_reg x rc hrc)
  have cAt : ((w.alloc (.cells #[.int .u8 11, .int .u8 cal, .int .u8 (ra : Int), .int .u8 (rb : Int), .int .u8 (rc : Int), .int .i64 num] 44))).cell? ⟨tb, n * 13 + 9, none⟩ = some (.int .i64 x.th.at_) := h0.cell hx 9 _ rfl
  have hws : w.heap.size < (w.alloc (.cells #[.int .u8 11, .int .u8 cal, .int .u8 (ra : Int), .int .u8 (rb : Int), .int .u8 (rc : Int), .int .i64 num] 44)).heap.size := by simp
  have hAi : (ra : Int) < 8 := by omega
  have hBi : (rb : Int) < 8 := by omega
  have hCi : (rc : Int) < 8 := by omega
  have hn : n < xs.length := (List.getElem?_eq_some_iff.1 hx).1
  have fT := h0.free (tb := tb) (by omega : 0 < xs.length)
  have fA := fT (n * 13 + 1 + ra)
  have fB := fT (n * 13 + 1 + rb)
  have f9 := fT (n * 13 + 9)
  have hw1 : IntKind.i64.wrap (x.th.at_ + 1) = x.th.at_ + 1 := IntWalk.i64_in _ (by omega)
  have hsz : ¬ w.heap.size = tb := by have := (rowLt h.ths (g := tb) rfl).2; omega
  have HX := hidI hx
  have H := hidI h
  have H0 := hidI h0
  have HB := hidI hb0
  have H3 := hidI (h.thsT tb rfl)
  obtain ⟨i0, hi, hz0, hz1, hz2⟩ := info_parts i64Info
  have HOUT := hidI (h0.th n x hx).out
  have HOL := hidI hol
  have HE := hidI hev
  have HF0 := hidI (h.fresh _ (Nat.le_refl _))
  have c11 : (w.alloc (.cells #[.int .u8 11, .int .u8 cal, .int .u8 (ra : Int), .int .u8 (rb : Int), .int .u8 (rc : Int), .int .i64 num] 44)).cell? ⟨tb, n * 13 + 11, none⟩ = some x.ov := h0.cell hx 11 _ rfl
  have f11 := fT (n * 13 + 11)
  have htb : tb < (w.alloc (.cells #[.int .u8 11, .int .u8 cal, .int .u8 (ra : Int), .int .u8 (rb : Int), .int .u8 (rc : Int), .int .i64 num] 44)).heap.size := (rowLt h0.ths (g := tb) rfl).2
  have hox : ∀ g, x.ov.ownBlock = some g → g < w.heap.size := fun g hg => (rowLt (h.th n x hx).out hg).2
  have HOX := hidI hox
  clear hol hev hox
  clear h h0 hx hb0 hbox fT hat
  go_enter Tryz.func57, Tryz.ntmps57
  go_wp2_with fail
  try generalize (w.alloc (.cells #[.int .u8 11, .int .u8 cal, .int .u8 (ra : Int), .int .u8 (rb : Int), .int .u8 (rc : Int), .int .i64 num] 44)) = w0 at H0 HB d0 d1 d2 d3 d4 d5 rA rB rC cAt fA fB f9 hws HOUT c11 f11 htb ⊢
  clear rB rC d0 d1 d3 d4 d5 cAt fA fB f9
  go_region_law (first | (refine step_append_d (by rfl) (.tmp 226) (.tmp 234) 100 (by rfl) base 2 i0 _ 1 8 Tryz.underlying100 hi hz0 hz1 hz2 rfl (by decide) x.ov x.th.out.length (x.th.out.flatMap encI) (by simp [Act.eval]) (by exact ownsRow_chg HOUT.out (((Chg.refl (fun _ => False) w0).alloc _).drew) (fun _ _ => id)) ⟨w0.heap.size, 0, none⟩ 1 1 (by decide) (encI (x.th.reg ra)) (by simp [Act.eval]) rfl (by exact news_at (block_new w0 _)) (one_I _) (by have := HOL.out; unfold maxLen; omega) (by have := HOL.out; omega) (by have := H0.out.base_le; show base ≤ (w0.alloc _).heap.size; rw [World.size_alloc]; omega) ?_; intro ao cp w2 h1 h2 h3; have hg0 : Chg (fun k => x.ov.ownBlock = some k) w0 w2 := Chg.grown (S := fun k => x.ov.ownBlock = some k) (((Chg.refl _ w0).alloc _).drew) h3 (fun k hk => .inl hk); have hbt : w2.heap[tb]? = w0.heap[tb]? := hg0.block tb htb (fun e => by have h7 := (H0.out.th n x HX.out).outT tb e; rw [H0.out.thsT tb rfl] at h7; omega); have s1 : w2.cell? ⟨tb, n * 13 + 11, none⟩ = some x.ov := (World.cell?_of_block hbt).trans c11; have s2 : w2.frozen? ⟨tb, n * 13 + 11, none⟩ = false := (by have f12 := f11; unfold World.frozen? at f12 ⊢; rw [hbt]; exact f12); have HG0 := hidI hg0; have HR := hidI h1; have HFR := hidI h2; clear h1 h2 h3 hg0 hbt))
  all_goals go_wp2_with fail
  all_goals (
    have hne : ∀ g, (Value.slice ao (x.th.out.length + 1) cp).ownBlock = some g → x.ov.ownBlock = some g ∨ w0.heap.size ≤ g := fun g hg => by
      rcases HFR.out g hg with e | e
      · exact .inl e
      · exact .inr (by have e' : (w0.alloc _).heap.size ≤ g := e; rw [World.size_alloc] at e'; omega)
    have h2 := H0.out.told HX.out (x.th.out ++ [x.th.reg ra]) (.slice ao (x.th.out.length + 1) cp) HG0.out (by rw [List.length_append, flat_snoc]; exact HR.out) hne
    have g2 : (w2.setCell ⟨tb, n * 13 + 11, none⟩ (.slice ao (x.th.out.length + 1) cp)).cell? ⟨w.heap.size, 2, none⟩ = some (.int .u8 (ra : Int)) := by
      rw [World.cell?_of_block (w := w0) ((Below.heap_setCell _ _ _ _ hsz).trans (HG0.out.block _ hws (fun e => absurd (HOX.out w.heap.size e) (Nat.lt_irrefl _))))]
      exact d2
    have gA := h2.cell (set_at HX.out _) (1 + ra) _ (encR_reg _ ra hra)
    rw [← Nat.add_assoc] at gA
    have H2 := hidI h2
    have HC2 := hidI (Chg.then_ (S := fun k => own k ≠ 0) (Chg.of_below HB.out) ((Chg.then_ (S := fun k => own k ≠ 0) (Chg.refl _ w0) HG0.out (fun k _ e => by show own k ≠ 0; rw [(H0.out.th n x HX.out).outT k e]; omega)).setCell (p := ⟨tb, n * 13 + 11, none⟩) (.inl (by show own tb ≠ 0; rw [H3.out]; decide)) (.slice ao (x.th.out.length + 1) cp)) (fun k _ e => e))
    have HRT := hidI (fun k (hk : k < w0.heap.size) => (retag_old (own := own) (v := .slice ao (x.th.out.length + 1) cp) (p := 7 + 3 * n) hk))
    clear h2 hne d2 rA c11 f11
    simp only at gA
    generalize w2.setCell ⟨tb, n * 13 + 11, none⟩ (.slice ao (x.th.out.length + 1) cp) = w3 at H2 HC2 g2 gA ⊢
    generalize retag own (.slice ao (x.th.out.length + 1) cp) (7 + 3 * n) w0.heap.size = own1 at H2 HRT
    go_region_held3 (fun w' => w'.cell? ⟨w.heap.size, 2, none⟩ = some (.int .u8 (ra : Int)) ∧ w'.cell? ⟨tb, n * 13 + 1 + ra, none⟩ = some (.int .i64 (x.th.reg ra))) (first | exact ⟨g2, gA⟩ | exact ⟨HKC.out.cell g2 (by show ¬ (own1 w.heap.size = 1 ∨ own1 w.heap.size = 4); rw [HRT.out _ hws, HF0.out]; decide), HKC.out.cell gA (by show ¬ (own1 tb = 1 ∨ own1 tb = 4); rw [HRT.out _ htb, H3.out]; decide)⟩) (first | (go_at_call 191; refine (rtell_any H2.out.drew HE.out n 9 (x.th.reg ra) 0).mono ?_; rintro e w1 ⟨rfl, hp⟩; have HP := hidI hp; have HKC := hidI hp.2; clear hp; dsimp only))
    obtain ⟨⟨own2, ev', hm, ho⟩, hc⟩ := HP.out
    have e9 := hm.cell (set_at HX.out _) 9 _ rfl
    have g9 := hm.free (by rw [List.length_set]; omega) (n * 13 + 9)
    have H5 := hidI hm
    have HO := hidI (show ∀ k, k < w.heap.size → own2 k = own k from fun k hk => by
      have h1 := HC2.out.size
      have h2 := HB.out.size
      rw [ho k (by show k < w3.heap.size; omega)]
      exact HRT.out k (by omega))
    have HC3 := hidI (Chg.then_ (S := fun k => own k ≠ 0) HC2.out.drew hc (fun k hk e => by
      have h2 := HB.out.size
      have h1 := HRT.out k (by omega)
      show own k ≠ 0
      rw [← h1]
      rcases e with e | e <;> rw [e] <;> decide))
    clear hm ho hc gA g2
    simp only at e9
    go_wp2_with fail
    go_end0
    exact ⟨rfl, RGoes.at_e H5.out (set_at HX.out _) HO.out HC3.out (by simp [MM.act, MM.put, MM.tell, MT.next, MT.r])⟩)

set_option maxRecDepth 100000 in
set_option maxHeartbeats 2000000 in
theorem rdo_store (h : RAt w base b own mm xs mv (.slice (some ⟨tb, 0, none⟩) xs.length cap) ev) (hx : xs[n]? = some x) {cal num : Int} {ra rb rc : Nat} (hra : ra < 8) (hrb : rb < 8) (hrc : rc < 8) (hat : 0 ≤ x.th.at_ ∧ x.th.at_ ≤ 262144) (a : Int) (hfull : x.th.wait.length < 64) (ha : 0 ≤ a ∧ a < 262144) :
    Calls Tryz.prog 57 #[.pointer (some ⟨b, 0, none⟩), .int .i64 (n : Int), .pointer (some ⟨tb, n * 13, none⟩), .agg #[.int .u8 5, .int .u8 cal, .int .u8 (ra : Int), .int .u8 (rb : Int), .int .u8 (rc : Int), .int .i64 num], .int .i64 a] w fun r w' => r = .returned (.tuple #[]) ∧ RGoes w base b own (mm.act n x.th ⟨5, cal, ra, rb, rc, num⟩ a) w' := by
  have hb0 : Below w.heap.size w (w.alloc (.cells #[.int .u8 5, .int .u8 cal, .int .u8 (ra : Int), .int .u8 (rb : Int), .int .u8 (rc : Int), .int .i64 num] 44)) := (Below.refl _ _).alloc (Nat.le_refl _) _
  have h0 := h.below hb0
  have hbox := block_new w (.cells #[.int .u8 5, .int .u8 cal, .int .u8 (ra : Int), .int .u8 (rb : Int), .int .u8 (rc : Int), .int .i64 num] 44)
  have d0 : ((w.alloc (.cells #[.int .u8 5, .int .u8 cal, .int .u8 (ra : Int), .int .u8 (rb : Int), .int .u8 (rc : Int), .int .i64 num] 44))).cell? ⟨w.heap.size, 0, none⟩ = some (.int .u8 5) := cell_of_block hbox rfl
  have d1 : ((w.alloc (.cells #[.int .u8 5, .int .u8 cal, .int .u8 (ra : Int), .int .u8 (rb : Int), .int .u8 (rc : Int), .int .i64 num] 44))).cell? ⟨w.heap.size, 1, none⟩ = some (.int .u8 cal) := cell_of_block hbox rfl
  have d2 : ((w.alloc (.cells #[.int .u8 5, .int .u8 cal, .int .u8 (ra : Int), .int .u8 (rb : Int), .int .u8 (rc : Int), .int .i64 num] 44))).cell? ⟨w.heap.size, 2, none⟩ = some (.int .u8 (ra : Int)) := cell_of_block hbox rfl
  have d3 : ((w.alloc (.cells #[.int .u8 5, .int .u8 cal, .int .u8 (ra : Int), .int .u8 (rb : Int), .int .u8 (rc : Int), .int .i64 num] 44))).cell? ⟨w.heap.size, 3, none⟩ = some (.int .u8 (rb : Int)) := cell_of_block hbox rfl
  have d4 : ((w.alloc (.cells #[.int .u8 5, .int .u8 cal, .int .u8 (ra : Int), .int .u8 (rb : Int), .int .u8 (rc : Int), .int .i64 num] 44))).cell? ⟨w.heap.size, 4, none⟩ = some (.int .u8 (rc : Int)) := cell_of_block hbox rfl
  have d5 : ((w.alloc (.cells #[.int .u8 5, .int .u8 cal, .int .u8 (ra : Int), .int .u8 (rb : Int), .int .u8 (rc : Int), .int .i64 num] 44))).cell? ⟨w.heap.size, 5, none⟩ = some (.int .i64 num) := cell_of_block hbox rfl
  have rA : ((w.alloc (.cells #[.int .u8 5, .int .u8 cal, .int .u8 (ra : Int), .int .u8 (rb : Int), .int .u8 (rc : Int), .int .i64 num] 44))).cell? ⟨tb, n * 13 + 1 + ra, none⟩ = some (.int .i64 (x.th.reg ra)) := by rw [Nat.add_assoc]; exact h0.cell hx _ _ (encR_reg x ra hra)
  have rB : ((w.alloc (.cells #[.int .u8 5, .int .u8 cal, .int .u8 (ra : Int), .int .u8 (rb : Int), .int .u8 (rc : Int), .int .i64 num] 44))).cell? ⟨tb, n * 13 + 1 + rb, none⟩ = some (.int .i64 (x.th.reg rb)) := by rw [Nat.add_assoc]; exact h0.cell hx _ _ (encR_reg x rb hrb)
  have rC : ((w.alloc (.cells #[.int .u8 5, .int .u8 cal, .int .u8 (ra : Int), .int .u8 (rb : Int), .int .u8 (rc : Int), .int .i64 num] 44))).cell? ⟨tb, n * 13 + 1 + rc, none⟩ = some (.int .i64 (x.th.reg rc)) := by rw [Nat.add_assoc]; exact h0.cell hx _ _ (encR_reg x rc hrc)
  have cAt : ((w.alloc (.cells #[.int .u8 5, .int .u8 cal, .int .u8 (ra : Int), .int .u8 (rb : Int), .int .u8 (rc : Int), .int .i64 num] 44))).cell? ⟨tb, n * 13 + 9, none⟩ = some (.int .i64 x.th.at_) := h0.cell hx 9 _ rfl
  have hws : w.heap.size < (w.alloc (.cells #[.int .u8 5, .int .u8 cal, .int .u8 (ra : Int), .int .u8 (rb : Int), .int .u8 (rc : Int), .int .i64 num] 44)).heap.size := by simp
  have hAi : (ra : Int) < 8 := by omega
  have hBi : (rb : Int) < 8 := by omega
  have hCi : (rc : Int) < 8 := by omega
  have hn : n < xs.length := (List.getElem?_eq_some_iff.1 hx).1
  have fT := h0.free (tb := tb) (by omega : 0 < xs.length)
  have fA := fT (n * 13 + 1 + ra)
  have fB := fT (n * 13 + 1 + rb)
  have f9 := fT (n * 13 + 9)
  have hw1 : IntKind.i64.wrap (x.th.at_ + 1) = x.th.at_ + 1 := IntWalk.i64_in _ (by omega)
  have hsz : ¬ w.heap.size = tb := by have := (rowLt h.ths (g := tb) rfl).2; omega
  have HX := hidI hx
  have H := hidI h
  have H0 := hidI h0
  have HB := hidI hb0
  have H3 := hidI (h.thsT tb rfl)
  obtain ⟨i0, hi, hz0, hz1, hz2⟩ := info_parts cellInfoR
  obtain ⟨wo, wc, hwv⟩ := (h.th n x hx).wait.shape
  have hwt := (h0.th n x hx).wait
  have hwtt := (h.th n x hx).waitT
  have c10 : (w.alloc (.cells #[.int .u8 5, .int .u8 cal, .int .u8 (ra : Int), .int .u8 (rb : Int), .int .u8 (rc : Int), .int .i64 num] 44)).cell? ⟨tb, n * 13 + 10, none⟩ = some (.slice wo x.th.wait.length wc) := by rw [← hwv]; exact h0.cell hx 10 _ rfl
  rw [hwv] at hwt hwtt
  have HWT := hidI hwt
  have HWTT := hidI hwtt
  have HWV := hidI hwv
  have HWL := hidI hfull
  have f10 := fT (n * 13 + 10)
  have htb : tb < (w.alloc (.cells #[.int .u8 5, .int .u8 cal, .int .u8 (ra : Int), .int .u8 (rb : Int), .int .u8 (rc : Int), .int .i64 num] 44)).heap.size := (rowLt h0.ths (g := tb) rfl).2
  have ea : IntKind.i64.wrap a = a := IntWalk.i64_in _ (by omega)
  clear hfull hwt hwtt hwv
  clear h h0 hx hb0 hbox fT hat
  go_enter Tryz.func57, Tryz.ntmps57
  go_wp2_with fail
  try generalize (w.alloc (.cells #[.int .u8 5, .int .u8 cal, .int .u8 (ra : Int), .int .u8 (rb : Int), .int .u8 (rc : Int), .int .i64 num] 44)) = w0 at H0 HB d0 d1 d2 d3 d4 d5 rA rB rC cAt fA fB f9 hws HWT c10 f10 htb ⊢
  clear rA rC d0 d1 d2 d4 d5 cAt fA fB f9
  go_region_law (first | (refine step_append_cut (by rfl) (.tmp 121) (.tmp 131) 23 (by rfl) base 105 i0 _ 2 16 Tryz.underlying23 hi hz0 hz1 hz2 rfl (by decide) (.slice wo x.th.wait.length wc) x.th.wait.length (x.th.wait.flatMap encCell) (by simp [Act.eval]) (by exact HWT.out.below (((Below.refl w0.heap.size w0).alloc (Nat.le_refl _) _).drew)) ⟨w0.heap.size, 0, none⟩ 1 1 (by decide) (encCell (a, x.th.reg rb)) (by simp [Act.eval]) rfl (by exact news_at (block_new w0 _)) (one_ceR _) (by have := HWL.out; unfold maxLen; omega) (by have := HWL.out; omega) (by have := H0.out.base_le; show base ≤ (w0.alloc _).heap.size; rw [World.size_alloc]; omega) ?_; intro ao cp w2 h1 h2 h3; have hg0 : Chg (fun k => (Value.slice wo x.th.wait.length wc).ownBlock = some k) w0 w2 := Chg.grown (S := fun k => (Value.slice wo x.th.wait.length wc).ownBlock = some k) (((Chg.refl _ w0).alloc _).drew) h3 (fun k hk => .inl hk); have hbt : w2.heap[tb]? = w0.heap[tb]? := hg0.block tb htb (fun e => by have h7 := HWTT.out tb e; rw [H3.out] at h7; omega); have s1 : w2.cell? ⟨tb, n * 13 + 10, none⟩ = some (.slice wo x.th.wait.length wc) := (World.cell?_of_block hbt).trans c10; have s2 : w2.frozen? ⟨tb, n * 13 + 10, none⟩ = false := (by have f12 := f10; unfold World.frozen? at f12 ⊢; rw [hbt]; exact f12); have HG0 := hidI hg0; have HR := hidI h1; have HFR := hidI h2; clear h1 h2 h3 hg0 hbt))
  all_goals (
    have hne : ∀ g, (Value.slice ao (x.th.wait.length + 1) cp).ownBlock = some g → x.wv.ownBlock = some g ∨ w0.heap.size ≤ g := fun g hg => by
      rcases HFR.out g hg with e | e
      · exact .inl (by rw [HWV.out]; exact e)
      · exact .inr (by have e' : (w0.alloc _).heap.size ≤ g := e; rw [World.size_alloc] at e'; omega)
    have h2 := H0.out.waited HX.out (x.th.wait ++ [(a, x.th.reg rb)]) (.slice ao (x.th.wait.length + 1) cp) (by rw [HWV.out]; exact HG0.out) (by rw [List.length_append, flat_snoc]; exact HR.out) hne
    have e9 := h2.cell (set_at HX.out _) 9 _ rfl
    have g9 := h2.free (by rw [List.length_set]; omega) (n * 13 + 9)
    have H2 := hidI h2
    have HC2 := hidI (Chg.then_ (S := fun k => own k ≠ 0) (Chg.of_below HB.out) ((Chg.then_ (S := fun k => own k ≠ 0) (Chg.refl _ w0) HG0.out (fun k _ e => by show own k ≠ 0; rw [HWTT.out k e]; omega)).setCell (p := ⟨tb, n * 13 + 10, none⟩) (.inl (by show own tb ≠ 0; rw [H3.out]; decide)) (.slice ao (x.th.wait.length + 1) cp)) (fun k _ e => e))
    have HRT := hidI (fun k (hk : k < w.heap.size) => (retag_old (own := own) (v := .slice ao (x.th.wait.length + 1) cp) (p := 6 + 3 * n) (Nat.lt_of_lt_of_le hk HB.out.size)))
    clear h2 hne d3 rB c10 f10
    simp only at e9
    generalize (w2.setCell ⟨tb, n * 13 + 10, none⟩ (.slice ao (x.th.wait.length + 1) cp)) = w3 at H2 HC2 e9 g9 ⊢
    go_wp2_with fail
    go_end0
    exact ⟨rfl, RGoes.at_e H2.out (set_at HX.out _) HRT.out HC2.out (by simp [MM.act, MM.put, MT.next, MT.r])⟩)
end Go.Proofs.YthmmbldhbdnfpaaGreatDoor

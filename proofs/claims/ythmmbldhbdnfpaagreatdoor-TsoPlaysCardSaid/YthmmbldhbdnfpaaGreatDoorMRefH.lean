/- Put together by merge.py out of XRefG.lean.tpl, XRefH.lean.tpl. -/
import Derived.Test.YthmmbldhbdnfpaaGreatDoorMRefA
import Derived.Test.YthmmbldhbdnfpaaGreatDoorRefE
namespace Go.Proofs.YthmmbldhbdnfpaaGreatDoor
open Go.RowKit
set_option linter.unusedVariables false
set_option linter.unusedSimpArgs false

section
variable {w w' : World} {base b : Nat} {own own' : Nat → Nat} {mm : MM} {xs : List RX} {mv tv ev : Value} {tb cap n N : Nat} {x : RX}

set_option maxRecDepth 100000 in
set_option maxHeartbeats 2000000 in
theorem rwaits_any (h : RAt w base b own mm xs mv (.slice (some ⟨tb, 0, none⟩) xs.length cap) ev) (hx : xs[n]? = some x) (o : OpD) (hw : x.th.wait.length ≤ 64) :
    Calls Tryz.prog 56 #[.pointer (some ⟨tb, n * 13, none⟩), .agg (encOp o).toArray] w fun r w' => r = .returned (.bool (x.th.waits o)) ∧ Below w.heap.size w w' := by
  obtain ⟨kind, cal, ra, rb, rc, num⟩ := o
  have hb0 : Below w.heap.size w (w.alloc (.cells #[.int .u8 kind, .int .u8 cal, .int .u8 ra, .int .u8 rb, .int .u8 rc, .int .i64 num] 44)) := (Below.refl _ _).alloc (Nat.le_refl _) _
  have h0 := h.below hb0
  obtain ⟨wo, wc, hwv⟩ := (h.th n x hx).wait.shape
  have c10 : (w.alloc (.cells #[.int .u8 kind, .int .u8 cal, .int .u8 ra, .int .u8 rb, .int .u8 rc, .int .i64 num] 44)).cell? ⟨tb, n * 13 + 10, none⟩ = some (.slice wo x.th.wait.length wc) := by rw [← hwv]; exact h0.cell hx 10 _ rfl
  have hbox := block_new w (.cells #[.int .u8 kind, .int .u8 cal, .int .u8 ra, .int .u8 rb, .int .u8 rc, .int .i64 num] 44)
  have d0 : (w.alloc (.cells #[.int .u8 kind, .int .u8 cal, .int .u8 ra, .int .u8 rb, .int .u8 rc, .int .i64 num] 44)).cell? ⟨w.heap.size, 0, none⟩ = some (.int .u8 kind) := cell_of_block hbox rfl
  have HB := hidI hb0
  clear h h0 hx hbox hb0 hwv
  unfold encOp
  by_cases k5 : kind = 5
  · subst k5
    by_cases h64 : 64 ≤ x.th.wait.length
    · have hv : x.th.waits ⟨5, cal, ra, rb, rc, num⟩ = true := by unfold MT.waits; rw [if_pos rfl]; simpa using h64
      rw [hv]
      have h64' : (x.th.wait.length : Int) ≥ 64 := by omega
      clear hv
      go_enter Tryz.func56, Tryz.ntmps56
      go_wp2_with fail
      go_ret
      exact ⟨rfl, HB.out⟩
    · have hv : x.th.waits ⟨5, cal, ra, rb, rc, num⟩ = false := by unfold MT.waits; rw [if_pos rfl]; simpa using h64
      rw [hv]
      have h64' : ¬ (x.th.wait.length : Int) ≥ 64 := by omega
      clear hv
      go_enter Tryz.func56, Tryz.ntmps56
      go_wp2_with fail
      go_ret
      exact ⟨rfl, HB.out⟩
  · by_cases k8 : kind = 8 ∨ kind = 9 ∨ kind = 10
    · by_cases h1 : 0 < x.th.wait.length
      · have hv : x.th.waits ⟨kind, cal, ra, rb, rc, num⟩ = true := by unfold MT.waits; rw [if_neg k5, if_pos k8]; simpa using h1
        rw [hv]
        have h1' : (x.th.wait.length : Int) > 0 := by omega
        clear hv k5
        rcases k8 with rfl | rfl | rfl
        all_goals (
          go_enter Tryz.func56, Tryz.ntmps56
          go_wp2_with fail
          go_ret
          exact ⟨rfl, HB.out⟩)
      · have hv : x.th.waits ⟨kind, cal, ra, rb, rc, num⟩ = false := by unfold MT.waits; rw [if_neg k5, if_pos k8]; simpa using h1
        rw [hv]
        have h1' : ¬ (x.th.wait.length : Int) > 0 := by omega
        clear hv k5
        rcases k8 with rfl | rfl | rfl
        all_goals (
          go_enter Tryz.func56, Tryz.ntmps56
          go_wp2_with fail
          go_ret
          exact ⟨rfl, HB.out⟩)
    · have hv : x.th.waits ⟨kind, cal, ra, rb, rc, num⟩ = false := by unfold MT.waits; rw [if_neg k5, if_neg k8]
      rw [hv]
      have q5 : (kind == 5) = false := by rw [beq_eq_false_iff_ne]; omega
      have q8 : (kind == 8) = false := by rw [beq_eq_false_iff_ne]; omega
      have q9 : (kind == 9) = false := by rw [beq_eq_false_iff_ne]; omega
      have q10 : (kind == 10) = false := by rw [beq_eq_false_iff_ne]; omega
      clear hv k5 k8
      go_enter Tryz.func56, Tryz.ntmps56
      go_wp2_with fail
      go_ret
      exact ⟨rfl, HB.out⟩
end

section
variable {w w' : World} {base b : Nat} {own own' : Nat → Nat} {mm : MM} {xs : List RX} {mv tv ev : Value} {tb cap n N : Nat} {x : RX}

set_option maxRecDepth 100000 in
set_option maxHeartbeats 2000000 in
theorem rstep_none (h : RAt w base b own mm xs mv tv ev) {z : Int} (hz : z < 0 ∨ (xs.length : Int) ≤ z) :
    Calls Tryz.prog 14 #[.pointer (some ⟨b, 0, none⟩), .int .i64 z] w fun r w' => r = .returned (.bool false) ∧ w' = w := by
  obtain ⟨ao, cp, rfl⟩ := ownsRow_shape h.ths
  have c1 := h.wcell 1 _ rfl
  clear h
  by_cases h0 : z < 0
  · clear hz
    go_enter Tryz.func14, Tryz.ntmps14
    go_wp2_with fail
    go_ret
    exact ⟨rfl, rfl⟩
  · have h1 : z ≥ (xs.length : Int) := by omega
    clear hz
    go_enter Tryz.func14, Tryz.ntmps14
    go_wp2_with fail
    go_ret
    exact ⟨rfl, rfl⟩

set_option maxRecDepth 100000 in
set_option maxHeartbeats 2000000 in
theorem rstep_fin (h : RAt w base b own mm xs mv (.slice (some ⟨tb, 0, none⟩) xs.length cap) ev) (hx : xs[n]? = some x) (h4 : xs.length ≤ 4) (hf : x.th.fin ≠ 0) :
    Calls Tryz.prog 14 #[.pointer (some ⟨b, 0, none⟩), .int .i64 (n : Int)] w fun r w' => r = .returned (.bool false) ∧ w' = w := by
  have hn : n < xs.length := (List.getElem?_eq_some_iff.1 hx).1
  have c1 := h.wcell 1 _ rfl
  have c12 := h.cell hx 12 _ rfl
  have hne : (x.th.fin == 0) = false := by rw [beq_eq_false_iff_ne]; exact hf
  have hne2 : (x.th.fin != 0) = true := by rw [bne, hne]; rfl
  clear h hx hf
  go_enter Tryz.func14, Tryz.ntmps14
  go_wp2_with fail
  go_ret
  exact ⟨rfl, rfl⟩

set_option maxRecDepth 100000 in
set_option maxHeartbeats 2000000 in
theorem rstep_far (h : RAt w base b own mm xs mv (.slice (some ⟨tb, 0, none⟩) xs.length cap) ev) (hx : xs[n]? = some x) (h4 : xs.length ≤ 4) (hf : x.th.fin = 0) (hev : mm.evs.length < 2000000000) (hat : 0 ≤ x.th.at_) (hfar : (x.th.code.length : Int) ≤ x.th.at_) :
    Calls Tryz.prog 14 #[.pointer (some ⟨b, 0, none⟩), .int .i64 (n : Int)] w fun r w' => r = .returned (.bool true) ∧ RGoes w base b own (mm.stop n x.th 8) w' := by
  have hn : n < xs.length := (List.getElem?_eq_some_iff.1 hx).1
  have c1 := h.wcell 1 _ rfl
  have c12 := h.cell hx 12 _ rfl
  rw [hf] at c12
  have c9 := h.cell hx 9 _ rfl
  obtain ⟨co, cc, hcv⟩ := ((h.th n x hx).code).shape
  have c0 : w.cell? ⟨tb, n * 13, none⟩ = some (.slice co x.th.code.length cc) := by rw [← hcv]; exact h.cell hx 0 _ rfl
  have hx1 : ¬ x.th.at_ < 0 := by omega
  have hx2 : x.th.at_ ≥ (x.th.code.length : Int) := by omega
  have H := hidI h
  have HX := hidI hx
  have HE := hidI hev
  clear h hx hf hcv hat hfar hev
  go_enter Tryz.func14, Tryz.ntmps14
  go_wp2_with fail
  go_quiet (fail)
  go_wp2_with fail
  refine (rend_any (H.out.drewN _) HX.out HE.out h4 8 (by omega)).mono ?_
  rintro r w1 ⟨rfl, hg⟩
  have HG := hidI hg
  clear hg
  go_wp2_with fail
  go_ret
  exact ⟨rfl, RGoes.after (below_drewN (Below.refl _ _) _) HG.out (fun k hk => H.out.fresh k hk)⟩

/-- an instruction comes up: the code's row -/
theorem rcode_at (h : RAt w base b own mm xs mv tv ev) (hx : xs[n]? = some x) {a : Nat} {o : OpD} (ho : x.th.code[a]? = some o) :
    ∃ cb cf cc, x.cv = .slice (some ⟨cb, cf, none⟩) x.th.code.length cc ∧ ∀ (j : Nat) u, (encOp o)[j]? = some u → w.cell? ⟨cb, cf + a * 6 + j, none⟩ = some u := by
  have hc := (h.th n x hx).code
  obtain ⟨co, cc, hcv⟩ := hc.shape
  rw [hcv] at hc
  obtain ⟨cb, cf, e, _, hcc⟩ := RdT.at encOp_len hc ho
  subst e
  exact ⟨cb, cf, cc, hcv, hcc⟩

/-- every instruction -/
theorem rdo_all (h : RAt w base b own mm xs mv (.slice (some ⟨tb, 0, none⟩) xs.length cap) ev) (hx : xs[n]? = some x) (hk : MOk N mm) (hN : N < 1000000000) {o : OpD} (ho : OpOk o) {av : Int}
    (hA : (o.kind = 4 ∨ o.kind = 15 ∨ o.kind = 5 ∨ o.kind = 8 ∨ o.kind = 9) → mm.has av = true) (hW : o.kind = 5 → x.th.wait.length < 64) :
    Calls Tryz.prog 57 #[.pointer (some ⟨b, 0, none⟩), .int .i64 (n : Int), .pointer (some ⟨tb, n * 13, none⟩), .agg (encOp o).toArray, .int .i64 av] w fun r w' => r = .returned (.tuple #[]) ∧ RGoes w base b own (mm.act n x.th o av) w' := by
  have h4 : xs.length ≤ 4 := by rw [← rths_len h]; exact hk.four
  have ht := hk.th x.th (List.mem_of_getElem? (h.th_at hx))
  have hev : mm.evs.length < 2000000000 := by have := hk.evs; omega
  have hm := hk.mem
  obtain ⟨kind, cal, ra, rb, rc, num⟩ := o
  obtain ⟨ra, rfl⟩ : ∃ q : Nat, ra = q := ⟨ra.toNat, by have := ho.ra; simp only at this; omega⟩
  obtain ⟨rb, rfl⟩ : ∃ q : Nat, rb = q := ⟨rb.toNat, by have := ho.rb; simp only at this; omega⟩
  obtain ⟨rc, rfl⟩ : ∃ q : Nat, rc = q := ⟨rc.toNat, by have := ho.rc; simp only at this; omega⟩
  have hra : ra < 8 := by have := ho.ra; simp only at this; omega
  have hrb : rb < 8 := by have := ho.rb; simp only at this; omega
  have hrc : rc < 8 := by have := ho.rc; simp only at this; omega
  have hkd := ho.kind
  have hj := ho.jump
  have hno := ho.note
  have htr := ho.trap
  simp only at hkd hj hno htr hA hW
  have hok : ∀ c ∈ x.th.wait, 0 ≤ c.1 ∧ c.1 < 262144 := fun c hc => by have := ht.wait c hc; omega
  have hhas : mm.has av = true → ∃ a : Nat, av = (a : Int) ∧ a < mm.mem.length := fun hq => by
    have := has_iff.1 hq
    exact ⟨av.toNat, by omega, by omega⟩
  rcases (by omega : kind = 1 ∨ kind = 2 ∨ kind = 3 ∨ kind = 4 ∨ kind = 5 ∨ kind = 6 ∨ kind = 7 ∨ kind = 8 ∨ kind = 9 ∨ kind = 10 ∨ kind = 11 ∨ kind = 12 ∨ kind = 13 ∨ kind = 14 ∨ kind = 15) with rfl | rfl | rfl | rfl | rfl | rfl | rfl | rfl | rfl | rfl | rfl | rfl | rfl | rfl | rfl
  · exact rdo_set h hx hra hrb hrc ht.at_ av
  · exact rdo_move h hx hra hrb hrc ht.at_ av
  · exact rdo_calc h hx hra hrb hrc ht.at_ av hev h4
  · obtain ⟨a, rfl, ha⟩ := hhas (hA (by simp))
    exact rdo_load h hx hra hrb hrc ht.at_ ha ht.full hok
  · have hq := has_iff.1 (hA (by simp))
    exact rdo_store h hx hra hrb hrc ht.at_ av (hW rfl) (by omega)
  · exact rdo_jump h hx hra hrb hrc ht.at_ av (hj (by simp))
  · exact rdo_zero h hx hra hrb hrc ht.at_ av (hj (by simp))
  · obtain ⟨a, rfl, ha⟩ := hhas (hA (by simp))
    exact rdo_cas h hx hra hrb hrc ht.at_ ha
  · obtain ⟨a, rfl, ha⟩ := hhas (hA (by simp))
    exact rdo_xadd h hx hra hrb hrc ht.at_ ha
  · exact rdo_fence h hx hra hrb hrc ht.at_ av
  · exact rdo_out h hx hra hrb hrc ht.at_ av (by have := ht.out; omega) hev
  · exact rdo_note h hx hra hrb hrc ht.at_ av (hno rfl) hev
  · exact rdo_trap h hx hra hrb hrc ht.at_ av (htr rfl) hev h4
  · exact rdo_halt h hx hra hrb hrc ht.at_ av hev h4
  · obtain ⟨a, rfl, ha⟩ := hhas (hA (by simp))
    exact rdo_look h hx hra hrb hrc ht.at_ ha ht.full hok hev

set_option maxRecDepth 100000 in
set_option maxHeartbeats 2000000 in
theorem rstep_op (h : RAt w base b own mm xs mv (.slice (some ⟨tb, 0, none⟩) xs.length cap) ev) (hx : xs[n]? = some x) (hk : MOk N mm) (hN : N < 1000000000) (hf : x.th.fin = 0) {a : Nat} {o : OpD} (hat : x.th.at_ = (a : Int)) (ho : x.th.code[a]? = some o) :
    Calls Tryz.prog 14 #[.pointer (some ⟨b, 0, none⟩), .int .i64 (n : Int)] w fun r w' => r = .returned (.bool (mm.go n x.th).1) ∧ RGoes w base b own (mm.go n x.th).2 w' := by
  have hn : n < xs.length := (List.getElem?_eq_some_iff.1 hx).1
  have h4 : xs.length ≤ 4 := by rw [← rths_len h]; exact hk.four
  have ht := hk.th x.th (List.mem_of_getElem? (h.th_at hx))
  have hoo := ht.ops o (List.mem_of_getElem? ho)
  have hal : a < x.th.code.length := (List.getElem?_eq_some_iff.1 ho).1
  have c1 := h.wcell 1 _ rfl
  have c12 := h.cell hx 12 _ rfl
  rw [hf] at c12
  have c9 : w.cell? ⟨tb, n * 13 + 9, none⟩ = some (.int .i64 (a : Int)) := by rw [← hat]; exact h.cell hx 9 _ rfl
  obtain ⟨cb, cf, cc, hcv, hcc⟩ := rcode_at h hx ho
  have c0 : w.cell? ⟨tb, n * 13, none⟩ = some (.slice (some ⟨cb, cf, none⟩) x.th.code.length cc) := by rw [← hcv]; exact h.cell hx 0 _ rfl
  have o0 : w.cell? ⟨cb, cf + a * 6, none⟩ = some (.int .u8 o.kind) := hcc 0 _ rfl
  have o1 : w.cell? ⟨cb, cf + a * 6 + 1, none⟩ = some (.int .u8 o.cal) := hcc 1 _ rfl
  have o2 : w.cell? ⟨cb, cf + a * 6 + 2, none⟩ = some (.int .u8 o.a) := hcc 2 _ rfl
  have o3 : w.cell? ⟨cb, cf + a * 6 + 3, none⟩ = some (.int .u8 o.b) := hcc 3 _ rfl
  have o4 : w.cell? ⟨cb, cf + a * 6 + 4, none⟩ = some (.int .u8 o.c) := hcc 4 _ rfl
  have o5 : w.cell? ⟨cb, cf + a * 6 + 5, none⟩ = some (.int .i64 o.n) := hcc 5 _ rfl
  have hx1 : ¬ (a : Int) < 0 := by omega
  have hx2 : ¬ (a : Int) ≥ (x.th.code.length : Int) := by omega
  have H := hidI h
  have HX := hidI hx
  have HK := hidI hk
  have HT := hidI ht
  have HOO := hidI hoo
  have HAT := hidI hat
  have HO := hidI ho
  clear h hx hf hcv hcc hk ht hoo hat ho
  go_enter Tryz.func14, Tryz.ntmps14
  go_wp2_with fail
  go_quiet (fail)
  go_wp2_with fail
  have hA := block_new (w.drewN (nq + 1)) (.cells #[.int .u8 0, .int .u8 0, .int .u8 0, .int .u8 0, .int .u8 0, .int .i64 0] 44)
  have hBA : Below w.heap.size w ((w.drewN (nq + 1)).alloc (.cells #[.int .u8 0, .int .u8 0, .int .u8 0, .int .u8 0, .int .u8 0, .int .i64 0] 44)) := (below_drewN (Below.refl _ _) _).alloc (Nat.le_refl _) _
  have za0 : ((w.drewN (nq + 1)).alloc (.cells #[.int .u8 0, .int .u8 0, .int .u8 0, .int .u8 0, .int .u8 0, .int .i64 0] 44)).cell? ⟨w.heap.size, 0, none⟩ = some (.int .u8 0) := cell_of_block hA rfl
  have za1 : ((w.drewN (nq + 1)).alloc (.cells #[.int .u8 0, .int .u8 0, .int .u8 0, .int .u8 0, .int .u8 0, .int .i64 0] 44)).cell? ⟨w.heap.size, 1, none⟩ = some (.int .u8 0) := cell_of_block hA rfl
  have za2 : ((w.drewN (nq + 1)).alloc (.cells #[.int .u8 0, .int .u8 0, .int .u8 0, .int .u8 0, .int .u8 0, .int .i64 0] 44)).cell? ⟨w.heap.size, 2, none⟩ = some (.int .u8 0) := cell_of_block hA rfl
  have za3 : ((w.drewN (nq + 1)).alloc (.cells #[.int .u8 0, .int .u8 0, .int .u8 0, .int .u8 0, .int .u8 0, .int .i64 0] 44)).cell? ⟨w.heap.size, 3, none⟩ = some (.int .u8 0) := cell_of_block hA rfl
  have za4 : ((w.drewN (nq + 1)).alloc (.cells #[.int .u8 0, .int .u8 0, .int .u8 0, .int .u8 0, .int .u8 0, .int .i64 0] 44)).cell? ⟨w.heap.size, 4, none⟩ = some (.int .u8 0) := cell_of_block hA rfl
  have za5 : ((w.drewN (nq + 1)).alloc (.cells #[.int .u8 0, .int .u8 0, .int .u8 0, .int .u8 0, .int .u8 0, .int .i64 0] 44)).cell? ⟨w.heap.size, 5, none⟩ = some (.int .i64 0) := cell_of_block hA rfl
  have zf : ∀ j, ((w.drewN (nq + 1)).alloc (.cells #[.int .u8 0, .int .u8 0, .int .u8 0, .int .u8 0, .int .u8 0, .int .i64 0] 44)).frozen? ⟨w.heap.size, j, none⟩ = false := fun j => free_of_block hA
  have y0 := cell_later hBA c0
  have y9 := cell_later hBA c9
  have y10 := cell_later hBA o0
  have y11 := cell_later hBA o1
  have y12 := cell_later hBA o2
  have y13 := cell_later hBA o3
  have y14 := cell_later hBA o4
  have y15 := cell_later hBA o5
  have HA := hidI hA
  have HBA := hidI hBA
  clear hA hBA
  go_region
  have hbx := block_setCell (o := 5) (.int .i64 o.n) (block_setCell (o := 4) (.int .u8 o.c) (block_setCell (o := 3) (.int .u8 o.b) (block_setCell (o := 2) (.int .u8 o.a) (block_setCell (o := 1) (.int .u8 o.cal) (block_setCell (o := 0) (.int .u8 o.kind) HA.out)))))
  have hb1 : Below w.heap.size w ((((((((w.drewN (nq + 1)).alloc (.cells #[.int .u8 0, .int .u8 0, .int .u8 0, .int .u8 0, .int .u8 0, .int .i64 0] 44)).setCell ⟨w.heap.size, 0, none⟩ (.int .u8 o.kind)).setCell ⟨w.heap.size, 1, none⟩ (.int .u8 o.cal)).setCell ⟨w.heap.size, 2, none⟩ (.int .u8 o.a)).setCell ⟨w.heap.size, 3, none⟩ (.int .u8 o.b)).setCell ⟨w.heap.size, 4, none⟩ (.int .u8 o.c)).setCell ⟨w.heap.size, 5, none⟩ (.int .i64 o.n)) := (((((HBA.out.setCell (Nat.le_refl _) _).setCell (Nat.le_refl _) _).setCell (Nat.le_refl _) _).setCell (Nat.le_refl _) _).setCell (Nat.le_refl _) _).setCell (Nat.le_refl _) _
  have HBX : Hid (((((((((w.drewN (nq + 1)).alloc (.cells #[.int .u8 0, .int .u8 0, .int .u8 0, .int .u8 0, .int .u8 0, .int .i64 0] 44)).setCell ⟨w.heap.size, 0, none⟩ (.int .u8 o.kind)).setCell ⟨w.heap.size, 1, none⟩ (.int .u8 o.cal)).setCell ⟨w.heap.size, 2, none⟩ (.int .u8 o.a)).setCell ⟨w.heap.size, 3, none⟩ (.int .u8 o.b)).setCell ⟨w.heap.size, 4, none⟩ (.int .u8 o.c)).setCell ⟨w.heap.size, 5, none⟩ (.int .i64 o.n)).heap[w.heap.size]? = some (.cells (encOp o).toArray 44 (0, 0))) := hidI hbx
  have HB1 := hidI hb1
  clear hbx hb1 za0 za1 za2 za3 za4 za5 zf y0 y9 y10 y11 y12 y13 y14 y15 HA HBA
  generalize ((((((((w.drewN (nq + 1)).alloc (.cells #[.int .u8 0, .int .u8 0, .int .u8 0, .int .u8 0, .int .u8 0, .int .i64 0] 44)).setCell ⟨w.heap.size, 0, none⟩ (.int .u8 o.kind)).setCell ⟨w.heap.size, 1, none⟩ (.int .u8 o.cal)).setCell ⟨w.heap.size, 2, none⟩ (.int .u8 o.a)).setCell ⟨w.heap.size, 3, none⟩ (.int .u8 o.b)).setCell ⟨w.heap.size, 4, none⟩ (.int .u8 o.c)).setCell ⟨w.heap.size, 5, none⟩ (.int .i64 o.n)) = w1 at HBX HB1 ⊢
  have p0 : w1.cell? ⟨w.heap.size, 0, none⟩ = some (.int .u8 o.kind) := cell_of_block HBX.out rfl
  have p1 : w1.cell? ⟨w.heap.size, 1, none⟩ = some (.int .u8 o.cal) := cell_of_block HBX.out rfl
  have p2 : w1.cell? ⟨w.heap.size, 2, none⟩ = some (.int .u8 o.a) := cell_of_block HBX.out rfl
  have p3 : w1.cell? ⟨w.heap.size, 3, none⟩ = some (.int .u8 o.b) := cell_of_block HBX.out rfl
  have p4 : w1.cell? ⟨w.heap.size, 4, none⟩ = some (.int .u8 o.c) := cell_of_block HBX.out rfl
  have p5 : w1.cell? ⟨w.heap.size, 5, none⟩ = some (.int .i64 o.n) := cell_of_block HBX.out rfl
  have HGO := hidI (show mm.go n x.th = (match x.th.word o with
    | none => if x.th.waits o = true then (false, mm) else (true, mm.act n x.th o 0)
    | some a => if mm.has a = true then (if x.th.waits o = true then (false, mm) else (true, mm.act n x.th o a)) else (true, mm.stop n x.th 8)) from by
    unfold MM.go
    rw [HAT.out, if_neg (by omega), Int.toNat_natCast, HO.out]
    rfl)
  go_wp2_with fail
  refine (rword_any (H.out.below HB1.out) HX.out o HOO.out).mono ?_
  rintro r w2 ⟨rfl, hb⟩
  have HB2 := hidI (bnext HB1.out hb)
  have p20 := cell_later hb p0
  have p21 := cell_later hb p1
  have p22 := cell_later hb p2
  have p23 := cell_later hb p3
  have p24 := cell_later hb p4
  have p25 := cell_later hb p5
  clear hb p0 p1 p2 p3 p4 p5 c0 c9 c12 o0 o1 o2 o3 o4 o5 hx1 hx2
  cases hwd : x.th.word o with
  | none =>
    have HWD := hidI hwd
    rw [hwd] at HGO
    clear hwd
    go_wp2_with fail
    refine (rwaits_any (H.out.below HB2.out) HX.out o HT.out.full).mono ?_
    rintro r w3 ⟨rfl, hb⟩
    have HB3 := hidI (bnext HB2.out hb)
    have p30 := cell_later hb p20
    have p31 := cell_later hb p21
    have p32 := cell_later hb p22
    have p33 := cell_later hb p23
    have p34 := cell_later hb p24
    have p35 := cell_later hb p25
    clear hb p20 p21 p22 p23 p24 p25
    cases hwt : x.th.waits o with
    | true =>
      have HWT := hidI hwt
      clear hwt
      go_wp2_with fail
      go_ret
      rw [HGO.out]
      simp only [HWT.out, if_true]
      exact ⟨(by first | rfl | trivial), RGoes.same H.out HB3.out⟩
    | false =>
      have HWT := hidI hwt
      clear hwt
      go_wp2_with fail
      refine (rdo_all (H.out.below HB3.out) HX.out HK.out hN HOO.out (av := 0) (fun hq => by
        exfalso
        have := HWD.out
        unfold MT.word at this
        rcases hq with e | e | e | e | e
        · rw [if_pos (.inl e)] at this; cases this
        · rw [if_pos (.inr e)] at this; cases this
        · rw [if_neg (by omega), if_pos (.inl e)] at this; cases this
        · rw [if_neg (by omega), if_pos (.inr (.inl e))] at this; cases this
        · rw [if_neg (by omega), if_pos (.inr (.inr e))] at this; cases this) (fun h5 => by
        have := HWT.out
        unfold MT.waits at this
        rw [if_pos h5] at this
        simpa using this)).mono ?_
      rintro r w4 ⟨rfl, hg⟩
      have HG := hidI hg
      clear hg
      go_wp2_with fail
      go_ret
      rw [HGO.out]
      simp only [HWT.out, Bool.false_eq_true, if_false]
      exact ⟨(by first | rfl | trivial), RGoes.after HB3.out HG.out (fun k hk => H.out.fresh k hk)⟩
  | some av =>
    have HWD := hidI hwd
    rw [hwd] at HGO
    clear hwd
    go_wp2_with fail
    refine (rthere_any (H.out.below HB2.out) av HK.out.mem.2).mono ?_
    rintro r w9 ⟨rfl, hw⟩
    obtain rfl := hw.symm
    cases hh : mm.has av with
    | false =>
      have HH := hidI hh
      clear hh
      go_wp2_with fail
      refine (rend_any (H.out.below HB2.out) HX.out (by have := HK.out.evs; omega) h4 8 (by omega)).mono ?_
      rintro r w4 ⟨rfl, hg⟩
      have HG := hidI hg
      clear hg
      go_wp2_with fail
      go_ret
      rw [HGO.out]
      simp only [HH.out, Bool.false_eq_true, if_false]
      exact ⟨(by first | rfl | trivial), RGoes.after HB2.out HG.out (fun k hk => H.out.fresh k hk)⟩
    | true =>
      have HH := hidI hh
      clear hh
      go_wp2_with fail
      refine (rwaits_any (H.out.below HB2.out) HX.out o HT.out.full).mono ?_
      rintro r w3 ⟨rfl, hb⟩
      have HB3 := hidI (bnext HB2.out hb)
      have p30 := cell_later hb p20
      have p31 := cell_later hb p21
      have p32 := cell_later hb p22
      have p33 := cell_later hb p23
      have p34 := cell_later hb p24
      have p35 := cell_later hb p25
      clear hb p20 p21 p22 p23 p24 p25
      cases hwt : x.th.waits o with
      | true =>
        have HWT := hidI hwt
        clear hwt
        go_wp2_with fail
        go_ret
        rw [HGO.out]
        simp only [HWT.out, HH.out, if_true, if_true]
        exact ⟨(by first | rfl | trivial), RGoes.same H.out HB3.out⟩
      | false =>
        have HWT := hidI hwt
        clear hwt
        go_wp2_with fail
        refine (rdo_all (H.out.below HB3.out) HX.out HK.out hN HOO.out (av := av) (fun _ => HH.out) (fun h5 => by
          have := HWT.out
          unfold MT.waits at this
          rw [if_pos h5] at this
          simpa using this)).mono ?_
        rintro r w4 ⟨rfl, hg⟩
        have HG := hidI hg
        clear hg
        go_wp2_with fail
        go_ret
        rw [HGO.out]
        simp only [HWT.out, HH.out, if_true, Bool.false_eq_true, if_false]
        exact ⟨(by first | rfl | trivial), RGoes.after HB3.out HG.out (fun k hk => H.out.fresh k hk)⟩

theorem rstep_any (h : RAt w base b own mm xs mv tv ev) (hk : MOk N mm) (hN : N < 1000000000) (z : Int) :
    Calls Tryz.prog 14 #[.pointer (some ⟨b, 0, none⟩), .int .i64 z] w fun r w' => r = .returned (.bool (mm.step z).1) ∧ RGoes w base b own (mm.step z).2 w' := by
  by_cases hz : 0 ≤ z ∧ z < (xs.length : Int)
  · obtain ⟨n, rfl⟩ : ∃ n : Nat, z = (n : Int) := ⟨z.toNat, by omega⟩
    obtain ⟨x, hx⟩ := some_at (show n < xs.length by omega)
    obtain ⟨tb, cap, rfl, -⟩ := h.tslice hx
    have h4 : xs.length ≤ 4 := by rw [← rths_len h]; exact hk.four
    have ht := hk.th x.th (List.mem_of_getElem? (h.th_at hx))
    by_cases hf : x.th.fin = 0
    · have hs : mm.step (n : Int) = mm.go n x.th := by
        unfold MM.step
        rw [rthr_some h hx]
        simp only [hf, ne_eq, not_true_eq_false, if_false, Int.toNat_natCast]
      rw [hs]
      by_cases hl : x.th.at_ < (x.th.code.length : Int)
      · obtain ⟨a, ha⟩ : ∃ a : Nat, x.th.at_ = (a : Int) := ⟨x.th.at_.toNat, by have := ht.at_; omega⟩
        obtain ⟨o, ho⟩ := some_at (show a < x.th.code.length by omega)
        exact rstep_op h hx hk hN hf ha ho
      · refine (rstep_far h hx h4 hf (by have := hk.evs; omega) ht.at_.1 (by omega)).mono ?_
        rintro r w' ⟨rfl, hg⟩
        have he : mm.go n x.th = (true, mm.stop n x.th 8) := by
          unfold MM.go
          have h1 := ht.at_.1
          rw [if_neg (by omega), List.getElem?_eq_none (by omega)]
        rw [he]
        exact ⟨rfl, hg⟩
    · refine (rstep_fin h hx h4 hf).mono ?_
      rintro r w' ⟨rfl, rfl⟩
      unfold MM.step
      rw [rthr_some h hx]
      simp only [ne_eq, hf, not_false_eq_true, if_true]
      exact ⟨(by first | rfl | trivial), RGoes.same h (Below.refl _ _)⟩
  · refine (rstep_none h (by omega)).mono ?_
    rintro r w' ⟨rfl, rfl⟩
    unfold MM.step
    rw [rthr_none h (by omega)]
    exact ⟨(by first | rfl | trivial), RGoes.same h (Below.refl _ _)⟩
end

end Go.Proofs.YthmmbldhbdnfpaaGreatDoor

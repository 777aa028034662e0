/- TsoNames. (Written by mktsonb.py.) -/
import Derived.Test.YtnechkhgceeejaaTsoNa
import Derived.Deep.RegionHeld3
namespace Go.Proofs.Ytnechkhgceeejaa
open Go.RowKit
set_option linter.unusedVariables false
set_option linter.unusedSimpArgs false

variable {w w' : World} {base b : Nat}

def nmOne : List OpD := [oSet 1 1, oStore 0 1 1, oLoad 2 0 2]
def nmTwo : List OpD := [oSet 1 1, oStore 0 1 2, oLoad 2 0 1]
def nmZ : List OpD := [oSet 1 1, ⟨3, 4, 1, 0, 0, 0⟩]
def nmFar : List OpD := [oSet 1 9, oLoad 1 1 0, ⟨14, 0, 0, 0, 0, 0⟩]
def nmX : List OpD := [oSet 1 2, ⟨9, 0, 0, 1, 0, 1⟩, ⟨11, 0, 1, 0, 0, 0⟩, ⟨14, 0, 0, 0, 0, 0⟩]
def nmS : Nat → MM
  | 0 => newM 4 [nmOne, nmTwo] []
  | k + 1 => ((((nmS k).step 0).2).step 1).2
def nm1 (l : List OpD) : Nat → MM
  | 0 => newM 4 [l] []
  | k + 1 => ((nm1 l k).step 0).2
theorem nmReg0 : ∃ t, (nmS 3).ths[0]? = some t ∧ t.reg 2 = 0 := by
  have h : ((nmS 3).ths[0]?).map (fun t => t.reg 2) = some 0 := by kernel_rfl
  cases hc : (nmS 3).ths[0]? with
  | none => rw [hc] at h; cases h
  | some t => rw [hc] at h; exact ⟨t, rfl, by simpa using h⟩
theorem nmReg1 : ∃ t, (nmS 3).ths[1]? = some t ∧ t.reg 2 = 0 := by
  have h : ((nmS 3).ths[1]?).map (fun t => t.reg 2) = some 0 := by kernel_rfl
  cases hc : (nmS 3).ths[1]? with
  | none => rw [hc] at h; cases h
  | some t => rw [hc] at h; exact ⟨t, rfl, by simpa using h⟩
theorem nmZs : (nm1 nmZ 4).ths.map (fun t => (t.out, t.fin)) = [([], 2)] := by kernel_rfl
theorem nmFars : (nm1 nmFar 4).ths.map (fun t => (t.out, t.fin)) = [([], 8)] := by kernel_rfl
theorem nmFarA : ∃ t, (nm1 nmFar 4).ths[0]? = some t ∧ t.at_ = 1 := by
  have h : ((nm1 nmFar 4).ths[0]?).map (fun t => t.at_) = some 1 := by kernel_rfl
  cases hc : (nm1 nmFar 4).ths[0]? with
  | none => rw [hc] at h; cases h
  | some t => rw [hc] at h; exact ⟨t, rfl, by simpa using h⟩
theorem nmEs : (nm1 [] 4).ths.map (fun t => (t.out, t.fin)) = [([], 8)] := by kernel_rfl
theorem nmXs : (nm1 nmX 4).ths.map (fun t => (t.out, t.fin)) = [([0], 1)] := by kernel_rfl
theorem nmXw : (if (nm1 nmX 4).has 1 = true then (nm1 nmX 4).at 1 else 0) = 2 ∧ (nm1 nmX 4).has 1 = true := ⟨by kernel_rfl, by kernel_rfl⟩
theorem nmXe : (nm1 nmX 4).evs = [⟨0, 9, 0, 0⟩, ⟨0, 10, 0, 0⟩] := by kernel_rfl

/-- one row behind rows that lie there -/
theorem two_code {w : World} {g : Nat} {l1 l2 : List OpD} (h1 : w.heap[g]? = some (.cells (l1.flatMap encOp).toArray 25 (0, 0))) (w1 : ∀ o ∈ l1, wfOp o) (w2 : ∀ o ∈ l2, wfOp o) :
    CodeAt ((w.alloc (.cells (l2.flatMap encOp).toArray 25)).alloc (.cells #[.slice (some ⟨g, 0, none⟩) l1.length l1.length, .slice (some ⟨w.heap.size, 0, none⟩) l2.length l2.length] 28)) (.slice (some ⟨w.heap.size + 1, 0, none⟩) 2 2)
      [(.slice (some ⟨g, 0, none⟩) l1.length l1.length, l1), (.slice (some ⟨w.heap.size, 0, none⟩) l2.length l2.length, l2)] := by
  refine lit_code (l := [(.slice (some ⟨g, 0, none⟩) l1.length l1.length, l1), (.slice (some ⟨w.heap.size, 0, none⟩) l2.length l2.length, l2)]) (T := 28) ?_ (fun p hp => ?_) (fun p hp => ?_)
  · rw [show w.heap.size + 1 = (w.alloc (.cells (l2.flatMap encOp).toArray 25)).heap.size from by simp]
    exact heap_alloc_new _ _
  · rcases List.mem_cons.1 hp with rfl | hp
    · exact lit_ops ((heap_alloc_old _ _ (by have := lt_of_block h1; simp; omega)).trans ((heap_alloc_old _ _ (lt_of_block h1)).trans h1))
    · rw [List.mem_singleton.1 hp]
      exact lit_ops ((heap_alloc_old _ _ (by simp)).trans (heap_alloc_new _ _))
  · rcases List.mem_cons.1 hp with rfl | hp
    · exact w1
    · rw [List.mem_singleton.1 hp]
      exact w2
theorem nil_code (w : World) : CodeAt (w.alloc (.cells #[.slice none 0 0] 28)) (.slice (some ⟨w.heap.size, 0, none⟩) 1 1) [(.slice none 0 0, [])] :=
  lit_code (l := [(.slice none 0 0, [])]) (T := 28) (heap_alloc_new _ _) (fun p hp => by rw [List.mem_singleton.1 hp]; exact Rd.nil _ 6) (fun p hp => by rw [List.mem_singleton.1 hp]; simp)
theorem lit_row {α : Type} {enc : α → List Value} {sz g : Nat} {T : TypeId} {l : List α} (he : ∀ a, (enc a).length = sz) (hg : w.heap[g]? = some (.cells (l.flatMap enc).toArray T (0, 0))) : RdT enc w sz (.slice (some ⟨g, 0, none⟩) l.length l.length) l :=
  ⟨flat_len he l, some ⟨g, 0, none⟩, l.length, rfl, Nat.le_refl _, fun _ => ⟨g, 0, rfl, lt_of_block hg, fun j u hj => by
    rw [Nat.zero_add]
    exact cell_of_block hg (by rw [List.getElem?_toArray]; exact hj)⟩⟩
/-- what is seen of a thread -/
theorem seen1_f {ms : List Mach} (hf : Fleet w base ms) {i : Nat} {m : Mach} (hi : ms[i]? = some m) (hN : m.N ≤ 1000000000) {o : List Int} {k : Int} (hs : m.mm.ths.map (fun t => (t.out, t.fin)) = [(o, k)]) :
    Calls Try.prog 18 #[.pointer (some ⟨m.b, 0, none⟩)] w fun r w' => ∃ g co cap ao c, r = .returned (.slice (some ⟨g, co, none⟩) 1 cap) ∧ w'.cell? ⟨g, co, none⟩ = some (.slice ao o.length c) ∧ w'.cell? ⟨g, co + 1, none⟩ = some (.int .u8 k) ∧ RdT encI w' 1 (.slice ao o.length c) o ∧ Below w.heap.size w w' := by
  refine (seen_f hf hi hN).mono ?_
  rintro r w' ⟨v, ls, rfl, hsa, hms, hb⟩
  rw [hs] at hms
  obtain ⟨s, rfl⟩ : ∃ s, ls = [s] := by
    cases ls with
    | nil => simp at hms
    | cons s r =>
      cases r with
      | nil => exact ⟨s, rfl⟩
      | cons s2 r => simp at hms
  have ho : s.out = o ∧ s.fin = k := by simpa using hms
  obtain ⟨rfl, rfl⟩ := ho
  obtain ⟨ao, cap, rfl⟩ := hsa.rows.shape
  obtain ⟨gb, co, rfl, hgb, hcc⟩ := RdT.at encS_len hsa.rows (k := 0) (x := s) rfl
  have i0 := hcc 0 _ rfl
  have i1 := hcc 1 _ rfl
  have hr := hsa.each s (by simp)
  obtain ⟨aq, cq, hq⟩ := hr.shape
  rw [hq] at i0 hr
  simp only [Nat.zero_mul, Nat.add_zero] at i0 i1
  exact ⟨gb, co, cap, aq, cq, rfl, i0, i1, hr, hb⟩
theorem at_f {ms : List Mach} (hf : Fleet w base ms) {i : Nat} {m : Mach} (hi : ms[i]? = some m) {n : Nat} {t : MT} (ht : m.mm.ths[n]? = some t) :
    Calls Try.prog 17 #[.pointer (some ⟨m.b, 0, none⟩), .int .i64 (n : Int)] w fun e w' => e = .returned (.tuple #[.int .i64 t.at_, .bool true]) ∧ w' = w := by
  obtain ⟨⟨xs, mv, tv, ev, hm⟩, hk⟩ := hf.each m (List.mem_of_getElem? hi)
  rw [hm.same, List.getElem?_map] at ht
  cases hx : xs[n]? with
  | none => rw [hx] at ht; cases ht
  | some x =>
    rw [hx] at ht
    simp only [Option.map_some, Option.some.injEq] at ht
    subst ht
    obtain ⟨tb, cap, rfl, -⟩ := hm.tslice hx
    exact at_yes hm hx

set_option maxRecDepth 100000 in
set_option maxHeartbeats 400000 in
theorem names_any (w : World) : Calls Try.prog 3 #[] w fun e w' => e = .returned (.bool true) ∧ Below w.heap.size w w' := by
  go_enter Try.func3, Try.ntmps3
  go_wp2_with fail
  refine (set_call _ 1 1).mono ?_
  rintro e w1 ⟨rfl, hb1⟩
  simp only [encOp, oSet]
  go_wp2_with fail
  refine (store_call _ 0 1 1).mono ?_
  rintro e w2 ⟨rfl, hb2⟩
  simp only [encOp, oStore]
  go_wp2_with fail
  refine (load_call _ 2 0 2).mono ?_
  rintro e w3 ⟨rfl, hb3⟩
  simp only [encOp, oLoad]
  go_wp2_with fail
  refine (set_call _ 1 1).mono ?_
  rintro e w4 ⟨rfl, hb4⟩
  simp only [encOp, oSet]
  go_wp2_with fail
  refine (store_call _ 0 1 2).mono ?_
  rintro e w5 ⟨rfl, hb5⟩
  simp only [encOp, oStore]
  go_wp2_with fail
  refine (load_call _ 2 0 1).mono ?_
  rintro e w6 ⟨rfl, hb6⟩
  simp only [encOp, oLoad]
  go_wp2_with fail
  have hb3' := bnext hb1 (bnext hb2 hb3)
  have hbA : Below (w3.heap.size + 1) (w3.alloc (.cells (nmOne.flatMap encOp).toArray 25)) w6 := by
    have h4 : Below (w3.alloc (.cells (nmOne.flatMap encOp).toArray 25)).heap.size (w3.alloc (.cells (nmOne.flatMap encOp).toArray 25)) w4 := hb4
    rw [← World.size_alloc w3 (.cells (nmOne.flatMap encOp).toArray 25)]
    exact bnext h4 (bnext hb5 hb6)
  have kb1 := (hbA.block w3.heap.size (by omega)).trans (heap_alloc_new w3 (.cells (nmOne.flatMap encOp).toArray 25))
  have hbB : Below w.heap.size w w6 := hb3'.trans (((Below.refl w3.heap.size w3).alloc (Nat.le_refl _) (.cells (nmOne.flatMap encOp).toArray 25) |>.trans (hbA.mono (by omega))).mono hb3'.size)
  have hcode := two_code (l1 := nmOne) (l2 := nmTwo) kb1 (by decide) (by decide)
  have hbw : Below w.heap.size w ((w6.alloc (.cells (nmTwo.flatMap encOp).toArray 25)).alloc (.cells #[.slice (some ⟨w3.heap.size, 0, none⟩) nmOne.length nmOne.length, .slice (some ⟨w6.heap.size, 0, none⟩) nmTwo.length nmTwo.length] 28)) :=
    (hbB.alloc hbB.size _).alloc (by have := hbB.size; simp; omega) _
  clear hb1 hb2 hb3 hb4 hb5 hb6 hb3' kb1 hbA hbB
  refine (made_f (base := w.heap.size) (ms := []) (l := [(.slice (some ⟨w3.heap.size, 0, none⟩) nmOne.length nmOne.length, nmOne), (.slice (some ⟨w6.heap.size, 0, none⟩) nmTwo.length nmTwo.length, nmTwo)]) (Fleet.none _ hbw.size) hcode 4 (by simp) (by rfl)).mono ?_
  rintro e w7 ⟨bm, own0, rfl, hf, hb7⟩
  have HF := hidI (show Fleet w7 w.heap.size [⟨bm, own0, nmS 0, 0⟩] from hf)
  have HB := hidI (hbw.trans (hb7.mono hbw.size))
  clear hf hb7 hcode hbw
  go_wp2_with fail
  go_loopw [4] (fun i w' => ∃ k : Nat, k ≤ 3 ∧ i = .int .i64 (k : Int) ∧ Hid (∃ own', Fleet w' w.heap.size [⟨bm, own', nmS k, 2 * k⟩]) ∧ Hid (Below w.heap.size w w')) (fun i _ => 3 - (intOf i).toNat)
  case atStart => exact ⟨0, by omega, rfl, ⟨own0, HF.out⟩, HB⟩
  case round =>
    clear HF HB
    obtain ⟨k, hk, rfl, HF, HB⟩ := hrel
    obtain ⟨ownk, hf⟩ := HF.out
    have HF := hidI hf
    clear hf
    by_cases hlt : k < 3
    · go_wp2_with fail
      refine (step_f HF.out (i := 0) rfl (by show 2 * k < 1000000000; omega) 0).mono ?_
      rintro e w8 ⟨rfl, ⟨own8, hf⟩, hb⟩
      have HF := hidI (show Fleet w8 w.heap.size [⟨bm, own8, ((nmS k).step 0).2, 2 * k + 1⟩] from hf)
      have HB := hidI (HB.out.trans hb)
      clear hf hb
      go_wp2_with fail
      refine (step_f HF.out (i := 0) rfl (by show 2 * k + 1 < 1000000000; omega) 1).mono ?_
      rintro e w9 ⟨rfl, ⟨own9, hf⟩, hb⟩
      have HF := hidI (show Fleet w9 w.heap.size [⟨bm, own9, nmS (k + 1), 2 * (k + 1)⟩] from hf)
      have HB := hidI (HB.out.trans hb)
      clear hf hb
      go_wp2_with fail
      exact ⟨⟨k + 1, by omega, by go_num, ⟨_, HF.out⟩, HB⟩, by simp [intOf]; omega⟩
    · obtain rfl : k = 3 := by omega
      clear hlt hk
      obtain ⟨t0, ht0, hr0⟩ := nmReg0
      obtain ⟨t1, ht1, hr1⟩ := nmReg1
      go_wp2_with fail
      refine (register_f (n := 0) (r := 2) HF.out (i := 0) rfl ht0 (by decide)).mono ?_
      rintro e wy ⟨rfl, rfl⟩
      rw [hr0]
      clear hr0 ht0
      go_wp2_with fail
      refine (register_f (n := 1) (r := 2) HF.out (i := 0) rfl ht1 (by decide)).mono ?_
      rintro e wz ⟨rfl, rfl⟩
      rw [hr1]
      clear hr1 ht1
      go_wp2_with fail
      refine (set_call _ 1 1).mono ?_
      rintro e zw0 ⟨rfl, hb0⟩
      simp only [encOp, oSet]
      go_wp2_with fail
      have HFx := hidI (HF.out.below (hb0))
      have HBx := hidI (HB.out.trans ((hb0).mono HB.out.size))
      clear hb0
      refine (made_f (l := [(.slice (some ⟨zw0.heap.size, 0, none⟩) 2 2, nmZ)]) (HFx.out.below (((Below.refl zw0.heap.size zw0).alloc (Nat.le_refl _) (.cells (nmZ.flatMap encOp).toArray 25)).alloc (by simp) (.cells #[.slice (some ⟨zw0.heap.size, 0, none⟩) nmZ.length nmZ.length] 28))) (one_code zw0 nmZ (by decide)) 4 (by simp) (by rfl)).mono ?_
      rintro e zm ⟨bz, ownz, rfl, hf, hb⟩
      have HF := hidI (show Fleet zm w.heap.size [⟨bm, ownk, nmS 3, 2 * 3⟩, ⟨bz, ownz, nm1 nmZ 0, 0⟩] from hf)
      have HB := hidI (HBx.out.trans ((bnext (((Below.refl zw0.heap.size zw0).alloc (Nat.le_refl _) (.cells (nmZ.flatMap encOp).toArray 25)).alloc (by simp) (.cells #[.slice (some ⟨zw0.heap.size, 0, none⟩) nmZ.length nmZ.length] 28)) (show Below _ _ zm from hb)).mono HBx.out.size))
      clear hf hb HFx HBx
      go_wp2_with fail
      refine (set_call _ 1 9).mono ?_
      rintro e fw0 ⟨rfl, hb0⟩
      simp only [encOp, oSet]
      go_wp2_with fail
      refine (load_call _ 1 1 0).mono ?_
      rintro e fw1 ⟨rfl, hb1⟩
      simp only [encOp, oLoad]
      go_wp2_with fail
      have HFx := hidI (HF.out.below (bnext hb0 hb1))
      have HBx := hidI (HB.out.trans ((bnext hb0 hb1).mono HB.out.size))
      clear hb0 hb1
      refine (made_f (l := [(.slice (some ⟨fw1.heap.size, 0, none⟩) 3 3, nmFar)]) (HFx.out.below (((Below.refl fw1.heap.size fw1).alloc (Nat.le_refl _) (.cells (nmFar.flatMap encOp).toArray 25)).alloc (by simp) (.cells #[.slice (some ⟨fw1.heap.size, 0, none⟩) nmFar.length nmFar.length] 28))) (one_code fw1 nmFar (by decide)) 4 (by simp) (by rfl)).mono ?_
      rintro e fm ⟨bf, ownf, rfl, hf, hb⟩
      have HF := hidI (show Fleet fm w.heap.size [⟨bm, ownk, nmS 3, 2 * 3⟩, ⟨bz, ownz, nm1 nmZ 0, 0⟩, ⟨bf, ownf, nm1 nmFar 0, 0⟩] from hf)
      have HB := hidI (HBx.out.trans ((bnext (((Below.refl fw1.heap.size fw1).alloc (Nat.le_refl _) (.cells (nmFar.flatMap encOp).toArray 25)).alloc (by simp) (.cells #[.slice (some ⟨fw1.heap.size, 0, none⟩) nmFar.length nmFar.length] 28)) (show Below _ _ fm from hb)).mono HBx.out.size))
      clear hf hb HFx HBx
      go_wp2_with fail
      refine (made_f (l := [(.slice none 0 0, [])]) (HF.out.below ((Below.refl fm.heap.size fm).alloc (Nat.le_refl _) (.cells #[.slice none 0 0] 28))) (nil_code fm) 4 (by simp) (by rfl)).mono ?_
      rintro e em ⟨be, owne, rfl, hf, hb⟩
      have HF := hidI (show Fleet em w.heap.size [⟨bm, ownk, nmS 3, 2 * 3⟩, ⟨bz, ownz, nm1 nmZ 0, 0⟩, ⟨bf, ownf, nm1 nmFar 0, 0⟩, ⟨be, owne, nm1 [] 0, 0⟩] from hf)
      have HB := hidI (HB.out.trans ((bnextA (Below.refl fm.heap.size fm) (show Below _ _ em from hb)).mono HB.out.size))
      clear hf hb
      go_wp2_with fail
      refine (set_call _ 1 2).mono ?_
      rintro e xw0 ⟨rfl, hb0⟩
      simp only [encOp, oSet]
      go_wp2_with fail
      have HFx := hidI (HF.out.below (hb0))
      have HBx := hidI (HB.out.trans ((hb0).mono HB.out.size))
      clear hb0
      refine (made_f (l := [(.slice (some ⟨xw0.heap.size, 0, none⟩) 4 4, nmX)]) (HFx.out.below (((Below.refl xw0.heap.size xw0).alloc (Nat.le_refl _) (.cells (nmX.flatMap encOp).toArray 25)).alloc (by simp) (.cells #[.slice (some ⟨xw0.heap.size, 0, none⟩) nmX.length nmX.length] 28))) (one_code xw0 nmX (by decide)) 4 (by simp) (by rfl)).mono ?_
      rintro e xm ⟨bx, ownx, rfl, hf, hb⟩
      have HF := hidI (show Fleet xm w.heap.size [⟨bm, ownk, nmS 3, 2 * 3⟩, ⟨bz, ownz, nm1 nmZ 0, 0⟩, ⟨bf, ownf, nm1 nmFar 0, 0⟩, ⟨be, owne, nm1 [] 0, 0⟩, ⟨bx, ownx, nm1 nmX 0, 0⟩] from hf)
      have HB := hidI (HBx.out.trans ((bnext (((Below.refl xw0.heap.size xw0).alloc (Nat.le_refl _) (.cells (nmX.flatMap encOp).toArray 25)).alloc (by simp) (.cells #[.slice (some ⟨xw0.heap.size, 0, none⟩) nmX.length nmX.length] 28)) (show Below _ _ xm from hb)).mono HBx.out.size))
      clear hf hb HFx HBx
      go_wp2_with fail
      go_loopw [13] (fun i w' => ∃ k : Nat, k ≤ 4 ∧ i = .int .i64 (k : Int) ∧ Hid (∃ o0 o1 o2 o3 o4, Fleet w' w.heap.size [⟨bm, o0, nmS 3, 2 * 3⟩, ⟨bz, o1, nm1 nmZ k, k⟩, ⟨bf, o2, nm1 nmFar k, k⟩, ⟨be, o3, nm1 [] k, k⟩, ⟨bx, o4, nm1 nmX k, k⟩]) ∧ Hid (Below w.heap.size w w')) (fun i _ => 4 - (intOf i).toNat)
      case atStart => exact ⟨0, by omega, rfl, ⟨_, _, _, _, _, HF.out⟩, HB⟩
      case round =>
        clear HF HB
        obtain ⟨k, hk, rfl, HF, HB⟩ := hrel
        obtain ⟨o0, o1, o2, o3, o4, hf⟩ := HF.out
        have HF := hidI hf
        clear hf
        by_cases hlt : k < 4
        · go_wp2_with fail
          refine (step_f HF.out (i := 1) rfl (by show k < 1000000000; omega) 0).mono ?_
          rintro e ws0 ⟨rfl, ⟨o1, hf⟩, hb⟩
          have HF := hidI (show Fleet ws0 w.heap.size [⟨bm, o0, nmS 3, 2 * 3⟩, ⟨bz, o1, nm1 nmZ (k + 1), k + 1⟩, ⟨bf, o2, nm1 nmFar k, k⟩, ⟨be, o3, nm1 [] k, k⟩, ⟨bx, o4, nm1 nmX k, k⟩] from hf)
          have HB := hidI (HB.out.trans hb)
          clear hf hb
          go_wp2_with fail
          refine (step_f HF.out (i := 2) rfl (by show k < 1000000000; omega) 0).mono ?_
          rintro e ws1 ⟨rfl, ⟨o2, hf⟩, hb⟩
          have HF := hidI (show Fleet ws1 w.heap.size [⟨bm, o0, nmS 3, 2 * 3⟩, ⟨bz, o1, nm1 nmZ (k + 1), k + 1⟩, ⟨bf, o2, nm1 nmFar (k + 1), k + 1⟩, ⟨be, o3, nm1 [] k, k⟩, ⟨bx, o4, nm1 nmX k, k⟩] from hf)
          have HB := hidI (HB.out.trans hb)
          clear hf hb
          go_wp2_with fail
          refine (step_f HF.out (i := 3) rfl (by show k < 1000000000; omega) 0).mono ?_
          rintro e ws2 ⟨rfl, ⟨o3, hf⟩, hb⟩
          have HF := hidI (show Fleet ws2 w.heap.size [⟨bm, o0, nmS 3, 2 * 3⟩, ⟨bz, o1, nm1 nmZ (k + 1), k + 1⟩, ⟨bf, o2, nm1 nmFar (k + 1), k + 1⟩, ⟨be, o3, nm1 [] (k + 1), k + 1⟩, ⟨bx, o4, nm1 nmX k, k⟩] from hf)
          have HB := hidI (HB.out.trans hb)
          clear hf hb
          go_wp2_with fail
          refine (step_f HF.out (i := 4) rfl (by show k < 1000000000; omega) 0).mono ?_
          rintro e ws3 ⟨rfl, ⟨o4, hf⟩, hb⟩
          have HF := hidI (show Fleet ws3 w.heap.size [⟨bm, o0, nmS 3, 2 * 3⟩, ⟨bz, o1, nm1 nmZ (k + 1), k + 1⟩, ⟨bf, o2, nm1 nmFar (k + 1), k + 1⟩, ⟨be, o3, nm1 [] (k + 1), k + 1⟩, ⟨bx, o4, nm1 nmX (k + 1), k + 1⟩] from hf)
          have HB := hidI (HB.out.trans hb)
          clear hf hb
          go_wp2_with fail
          exact ⟨⟨k + 1, by omega, by go_num, ⟨_, _, _, _, _, HF.out⟩, HB⟩, by simp [intOf]; omega⟩
        · obtain rfl : k = 4 := by omega
          clear hlt hk
          go_wp2_with fail
          refine (word_f HF.out (i := 4) rfl 1).mono ?_
          rintro e wp ⟨rfl, rfl⟩
          rw [show (Mach.mm ⟨bx, o4, nm1 nmX 4, 4⟩) = nm1 nmX 4 from rfl, nmXw.1, nmXw.2]
          go_wp2_with fail
          obtain ⟨tf, htf, haf⟩ := nmFarA
          refine (at_f HF.out (i := 2) rfl (n := 0) htf).mono ?_
          rintro e wq ⟨rfl, rfl⟩
          rw [haf]
          clear haf htf
          go_wp2_with fail
          refine (seen1_f HF.out (i := 1) rfl (by show (4 : Nat) ≤ 1000000000; omega) nmZs).mono ?_
          rintro e wn0 ⟨gb0, co0, cp0, ao0, ac0, rfl, i0, i1, -, hb⟩
          have HF := hidI (HF.out.below hb)
          have HB := hidI (HB.out.trans (hb.mono HB.out.size))
          clear hb
          go_wp2_with fail
          clear i0 i1
          refine (seen1_f HF.out (i := 2) rfl (by show (4 : Nat) ≤ 1000000000; omega) nmFars).mono ?_
          rintro e wn1 ⟨gb1, co1, cp1, ao1, ac1, rfl, i0, i1, -, hb⟩
          have HF := hidI (HF.out.below hb)
          have HB := hidI (HB.out.trans (hb.mono HB.out.size))
          clear hb
          go_wp2_with fail
          clear i0 i1
          refine (seen1_f HF.out (i := 3) rfl (by show (4 : Nat) ≤ 1000000000; omega) nmEs).mono ?_
          rintro e wn2 ⟨gb2, co2, cp2, ao2, ac2, rfl, i0, i1, -, hb⟩
          have HF := hidI (HF.out.below hb)
          have HB := hidI (HB.out.trans (hb.mono HB.out.size))
          clear hb
          go_wp2_with fail
          clear i0 i1
          refine (seen1_f HF.out (i := 4) rfl (by show (4 : Nat) ≤ 1000000000; omega) nmXs).mono ?_
          rintro e wn3 ⟨gb3, co3, cp3, ao3, ac3, rfl, i0, i1, hrx, hb⟩
          have HF := hidI (HF.out.below hb)
          have HB := hidI (HB.out.trans (hb.mono HB.out.size))
          have HRX := hidI hrx
          clear hb hrx
          go_wp2_with fail
          have hbl : Below wn3.heap.size wn3 (wn3.alloc (.cells #[.int .i64 0] 2)) := (Below.refl _ _).alloc (Nat.le_refl _) _
          refine (sameSeen_true (l := [0]) (Rd.below HRX.out hbl) (lit_row (l := [0]) encI_len (block_new _ _)) (by simp) 1).mono ?_
          rintro e wo ⟨rfl, hb⟩
          have HF := hidI (HF.out.below (bnext hbl hb))
          have HB := hidI (HB.out.trans ((bnext hbl hb).mono HB.out.size))
          clear hb hbl i0 i1 HRX
          go_wp2_with fail
          refine (events_f HF.out (i := 4) rfl (by show (4 : Nat) ≤ 1000000000; omega)).mono ?_
          rintro e wr1 ⟨cv, rfl, ho, hb⟩
          obtain ⟨aov, cpv, rfl⟩ := ownsRow_shape ho
          rw [show (Mach.mm ⟨bx, o4, nm1 nmX 4, 4⟩) = nm1 nmX 4 from rfl, nmXe] at ho ⊢
          have HO := hidI (Rd.of_own ho)
          have HF := hidI (HF.out.below hb)
          have HB := hidI (HB.out.trans (hb.mono HB.out.size))
          clear ho hb
          go_wp2_with fail
          have hbl : Below wr1.heap.size wr1 (wr1.alloc (.cells (([⟨0, 9, 0, 0⟩, ⟨0, 10, 0, 0⟩] : List Ev).flatMap encEv).toArray 49)) := (Below.refl _ _).alloc (Nat.le_refl _) _
          refine (sameEvents_true (l := [⟨0, 9, 0, 0⟩, ⟨0, 10, 0, 0⟩]) (Rd.below HO.out hbl) (lit_row (l := [⟨0, 9, 0, 0⟩, ⟨0, 10, 0, 0⟩]) encEv_len (block_new _ _)) (by simp)).mono ?_
          rintro e wo2 ⟨rfl, hb⟩
          have HB := hidI (HB.out.trans ((bnext hbl hb).mono HB.out.size))
          clear hb hbl HO HF
          go_wp2_with fail
          have hcn : ∀ w, CodeAt w (.slice none 0 0) [] := fun w => ⟨Rd.nil w 1, fun p hp => absurd hp (by simp), fun p hp => absurd hp (by simp)⟩
          refine (new_no (l := []) (cs := []) (hcn _) (Rd.nil _ 2) 0 (by simp) (by simp) (by decide)).mono ?_
          rintro e wn4 ⟨rfl, hb⟩
          rw [show checkM 0 [] [] = 1 from by decide]
          have HB := hidI (HB.out.trans (hb.mono HB.out.size))
          clear hb
          go_wp2_with fail
          refine (new_no (l := []) (cs := []) (hcn _) (Rd.nil _ 2) 262145 (by simp) (by simp) (by decide)).mono ?_
          rintro e wn5 ⟨rfl, hb⟩
          rw [show checkM 262145 [] [] = 3 from by decide]
          have HB := hidI (HB.out.trans (hb.mono HB.out.size))
          clear hb hcn
          go_wp2_with fail
          refine (lives_any _).mono ?_
          rintro e wn6 ⟨rfl, hb⟩
          have HB := hidI (HB.out.trans (hb.mono HB.out.size))
          clear hb
          go_wp2_with fail
          go_ret
          exact ⟨rfl, HB.out⟩
end Go.Proofs.Ytnechkhgceeejaa

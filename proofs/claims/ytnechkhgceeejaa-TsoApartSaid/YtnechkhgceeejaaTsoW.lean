/- The laws of package tso: made, and the instructions; a machine lives. -/
import Derived.Test.YtnechkhgceeejaaTsoV
import Derived.Laws.Rows
namespace Go.Proofs.Ytnechkhgceeejaa
open Go.RowKit
set_option linter.unusedVariables false
set_option linter.unusedSimpArgs false

variable {w w' : World} {base b : Nat}

def oSet (r n : Int) : OpD := ⟨1, 0, r, 0, 0, n⟩
def oStore (a b n : Int) : OpD := ⟨5, 0, a, b, 0, n⟩
def oLoad (a b n : Int) : OpD := ⟨4, 0, a, b, 0, n⟩
theorem set_call (w : World) (r n : Int) : Calls Try.prog 10 #[.int .u8 r, .int .i64 n] w fun e w' => e = .returned (.agg (encOp (oSet r n)).toArray) ∧ Below w.heap.size w w' := by
  go_enter Try.func10, Try.ntmps10
  go_wp2_with fail
  try simp only [Exit.inBlock, Exit.then]
  refine bodyPost_ret (results_cell_row rfl _ _ _ _ (encOp (oSet r n)).toArray (0, 0) _ rfl (heap_alloc_new w _) Try.underlying25 rfl (by kernel_rfl)) rfl ?_
  exact ⟨rfl, (Below.refl _ _).alloc (Nat.le_refl _) _⟩
theorem store_call (w : World) (a b n : Int) : Calls Try.prog 11 #[.int .u8 a, .int .u8 b, .int .i64 n] w fun e w' => e = .returned (.agg (encOp (oStore a b n)).toArray) ∧ Below w.heap.size w w' := by
  go_enter Try.func11, Try.ntmps11
  go_wp2_with fail
  try simp only [Exit.inBlock, Exit.then]
  refine bodyPost_ret (results_cell_row rfl _ _ _ _ (encOp (oStore a b n)).toArray (0, 0) _ rfl (heap_alloc_new w _) Try.underlying25 rfl (by kernel_rfl)) rfl ?_
  exact ⟨rfl, (Below.refl _ _).alloc (Nat.le_refl _) _⟩
theorem load_call (w : World) (a b n : Int) : Calls Try.prog 12 #[.int .u8 a, .int .u8 b, .int .i64 n] w fun e w' => e = .returned (.agg (encOp (oLoad a b n)).toArray) ∧ Below w.heap.size w w' := by
  go_enter Try.func12, Try.ntmps12
  go_wp2_with fail
  try simp only [Exit.inBlock, Exit.then]
  refine bodyPost_ret (results_cell_row rfl _ _ _ _ (encOp (oLoad a b n)).toArray (0, 0) _ rfl (heap_alloc_new w _) Try.underlying25 rfl (by kernel_rfl)) rfl ?_
  exact ⟨rfl, (Below.refl _ _).alloc (Nat.le_refl _) _⟩

/-- made: a machine of few words, without cells -/
theorem made_l {ca : Option Addr} {ccap : Nat} {l : List (Value × List OpD)} (h : CodeAt w (.slice ca l.length ccap) l) (mem : Int) (hl : l.length ≤ 6000000000000) (hk : checkM mem l [] = 0) :
    Calls Try.prog 13 #[.int .i64 mem, .slice ca l.length ccap] w fun e w' => ∃ b, e = .returned (.pointer (some ⟨b, 0, none⟩)) ∧ MLive w' w.heap.size b (newM mem (l.map (·.2)) []) 0 ∧ Below w.heap.size w w' := by
  have H := hidI h
  have HL := hidI hl
  have HK := hidI hk
  clear h hl hk
  go_enter Try.func13, Try.ntmps13
  go_wp2_with fail
  refine (new_yes (cs := []) H.out (Rd.nil w 2) mem HL.out (by simp) HK.out).mono ?_
  rintro e w1 ⟨b, own, xs, mv, tv, rfl, hm, hb⟩
  have HM := hidI (MLive.of hm (newM_ok H.out HK.out))
  have HB := hidI hb
  clear hm hb
  go_wp2_with fail
  go_ret
  exact ⟨_, rfl, HM.out, HB.out⟩

def livesOps : List OpD := [oSet 1 5, oStore 0 1 2, oLoad 2 0 2, ⟨10, 0, 0, 0, 0, 0⟩, ⟨14, 0, 0, 0, 0, 0⟩]
instance (o : OpD) : Decidable (wfOp o) := by unfold wfOp; exact inferInstance
/-- a code of one row, made of literals -/
theorem one_code (w : World) (l : List OpD) (hw : ∀ o ∈ l, wfOp o) : CodeAt ((w.alloc (.cells (l.flatMap encOp).toArray 25)).alloc (.cells #[.slice (some ⟨w.heap.size, 0, none⟩) l.length l.length] 28)) (.slice (some ⟨w.heap.size + 1, 0, none⟩) 1 1)
    [(.slice (some ⟨w.heap.size, 0, none⟩) l.length l.length, l)] := by
  have h1 := heap_alloc_new w (.cells (l.flatMap encOp).toArray 25)
  have h2 := heap_alloc_new (w.alloc (.cells (l.flatMap encOp).toArray 25)) (.cells #[.slice (some ⟨w.heap.size, 0, none⟩) l.length l.length] 28)
  have h3 := (heap_alloc_old (w.alloc (.cells (l.flatMap encOp).toArray 25)) (.cells #[.slice (some ⟨w.heap.size, 0, none⟩) l.length l.length] 28) (show w.heap.size < _ by simp)).trans h1
  rw [World.size_alloc] at h2
  refine ⟨⟨rfl, some ⟨w.heap.size + 1, 0, none⟩, 1, rfl, Nat.le_refl _, fun _ => ⟨_, _, rfl, lt_of_block h2, fun j u hj => ?_⟩⟩, fun p hp => ?_, fun p hp o ho => ?_⟩
  · rw [Nat.zero_add]
    exact cell_of_block h2 (by simpa [encC] using hj)
  · rw [List.mem_singleton.1 hp]
    exact ⟨flat_len encOp_len l, some ⟨w.heap.size, 0, none⟩, l.length, rfl, Nat.le_refl _, fun _ => ⟨_, _, rfl, lt_of_block h3, fun j u hj => by
      rw [Nat.zero_add]
      exact cell_of_block h3 (by rw [List.getElem?_toArray]; exact hj)⟩⟩
  · rw [List.mem_singleton.1 hp] at ho
    exact hw o ho

def lm0 : MM := newM 4 [livesOps] []
def lm1 : MM := (lm0.step 0).2
def lm2 : MM := (lm1.step 0).2
def lm3 : MM := (lm2.step 0).2
def lm4 : MM := (lm3.step 0).2
def lm5 : MM := (lm4.flush 0).2
def lm6 : MM := (lm5.flush 0).2
def lm7 : MM := (lm6.step 0).2
def lm8 : MM := (lm7.step 0).2
theorem lmf0 : (lm0.step 0).1 = true := by kernel_rfl
theorem lmf1 : (lm1.step 0).1 = true := by kernel_rfl
theorem lmf2 : (lm2.step 0).1 = true := by kernel_rfl
theorem lmf3 : (lm3.step 0).1 = false := by kernel_rfl
theorem lmr : ∃ t, lm4.ths[0]? = some t ∧ t.reg 2 = 5 := by
  have h : (lm4.ths[0]?).map (fun t => t.reg 2) = some 5 := by kernel_rfl
  cases hq : lm4.ths[0]? with
  | none => rw [hq] at h; cases h
  | some t => rw [hq] at h; exact ⟨t, rfl, by simpa using h⟩
theorem lmw0 : (if lm4.has 2 = true then lm4.at 2 else 0) = 0 ∧ lm4.has 2 = true := ⟨by kernel_rfl, by kernel_rfl⟩
theorem lmf4 : (lm4.flush 0).1 = true := by kernel_rfl
theorem lmf5 : (lm5.flush 0).1 = false := by kernel_rfl
theorem lmf6 : (lm6.step 0).1 = true := by kernel_rfl
theorem lmf7 : (lm7.step 0).1 = true := by kernel_rfl
theorem lmw5 : (if lm8.has 2 = true then lm8.at 2 else 0) = 5 ∧ lm8.has 2 = true := ⟨by kernel_rfl, by kernel_rfl⟩
theorem lms : lm8.ths.map (fun t => (t.out, t.fin)) = [([], 1)] := by kernel_rfl

set_option maxRecDepth 100000 in
set_option maxHeartbeats 2000000 in
theorem lives_any (w : World) : Calls Try.prog 23 #[] w fun e w' => e = .returned (.bool true) ∧ Below w.heap.size w w' := by
  go_enter Try.func23, Try.ntmps23
  go_wp2_with fail
  refine (set_call _ 1 5).mono ?_
  rintro e w1 ⟨rfl, hb1⟩
  simp only [encOp, oSet]
  go_wp2_with fail
  refine (store_call _ 0 1 2).mono ?_
  rintro e w2 ⟨rfl, hb2⟩
  simp only [encOp, oStore]
  go_wp2_with fail
  refine (load_call _ 2 0 2).mono ?_
  rintro e w3 ⟨rfl, hb3⟩
  simp only [encOp, oLoad]
  have hb := (hb1.trans (hb2.mono hb1.size)).trans (hb3.mono (Nat.le_trans hb1.size hb2.size))
  have HB3 := hidI hb
  clear hb hb1 hb2 hb3
  go_wp2_with fail
  refine (made_l (l := [(.slice (some ⟨w3.heap.size, 0, none⟩) 5 5, livesOps)]) (one_code w3 livesOps (by decide)) 4 (by simp) (by rfl)).mono ?_
  rintro e w4 ⟨b, rfl, hm, hb4⟩
  obtain ⟨B0, hB0⟩ : ∃ B0, B0 = ((w3.alloc (.cells (livesOps.flatMap encOp).toArray 25)).alloc (.cells #[.slice (some ⟨w3.heap.size, 0, none⟩) livesOps.length livesOps.length] 28)).heap.size := ⟨_, rfl⟩
  have hB1 : w.heap.size ≤ B0 := by rw [hB0]; have := HB3.out.size; simp; omega
  have hm0 : MLive w4 B0 b lm0 0 := by rw [hB0]; exact hm
  have HM0 := hidI hm0
  have HB := hidI (HB3.out.trans (((((Below.refl w3.heap.size w3).alloc (Nat.le_refl _) (.cells (livesOps.flatMap encOp).toArray 25)).alloc (by simp) (.cells #[.slice (some ⟨w3.heap.size, 0, none⟩) livesOps.length livesOps.length] 28)).trans (hb4.mono (by simp; omega))).mono HB3.out.size))
  have HB1 := hidI hB1
  clear hm hb4 hB0 hB1 hm0 HB3
  go_wp2_with fail
  refine (step_l HM0.out (by decide) 0).mono ?_
  rintro e w5 ⟨rfl, hm, hb⟩
  rw [lmf0]
  have HM1 := hidI (show MLive w5 B0 b lm1 _ from hm)
  have HB := hidI (HB.out.trans (hb.mono HB1.out))
  clear hm hb HM0
  go_wp2_with fail
  refine (step_l HM1.out (by decide) 0).mono ?_
  rintro e w6 ⟨rfl, hm, hb⟩
  rw [lmf1]
  have HM2 := hidI (show MLive w6 B0 b lm2 _ from hm)
  have HB := hidI (HB.out.trans (hb.mono HB1.out))
  clear hm hb HM1
  go_wp2_with fail
  refine (step_l HM2.out (by decide) 0).mono ?_
  rintro e w7 ⟨rfl, hm, hb⟩
  rw [lmf2]
  have HM3 := hidI (show MLive w7 B0 b lm3 _ from hm)
  have HB := hidI (HB.out.trans (hb.mono HB1.out))
  clear hm hb HM2
  go_wp2_with fail
  refine (step_l HM3.out (by decide) 0).mono ?_
  rintro e w8 ⟨rfl, hm, hb⟩
  rw [lmf3]
  have HM4 := hidI (show MLive w8 B0 b lm4 _ from hm)
  have HB := hidI (HB.out.trans (hb.mono HB1.out))
  clear hm hb HM3
  go_wp2_with fail
  obtain ⟨t0, ht0, hr0⟩ := lmr
  refine (register_l (n := 0) (r := 2) HM4.out ht0 (by decide)).mono ?_
  rintro e w8' ⟨rfl, rfl⟩
  rw [hr0]
  clear hr0 ht0
  go_wp2_with fail
  refine (word_l HM4.out 2).mono ?_
  rintro e w8' ⟨rfl, rfl⟩
  rw [lmw0.1, lmw0.2]
  go_wp2_with fail
  refine (flush_l HM4.out 0).mono ?_
  rintro e w9 ⟨rfl, hm, hb⟩
  rw [lmf4]
  have HM5 := hidI (show MLive w9 B0 b lm5 _ from hm)
  have HB := hidI (HB.out.trans (hb.mono HB1.out))
  clear hm hb HM4
  go_wp2_with fail
  refine (flush_l HM5.out 0).mono ?_
  rintro e w10 ⟨rfl, hm, hb⟩
  rw [lmf5]
  have HM6 := hidI (show MLive w10 B0 b lm6 _ from hm)
  have HB := hidI (HB.out.trans (hb.mono HB1.out))
  clear hm hb HM5
  go_wp2_with fail
  refine (step_l HM6.out (by decide) 0).mono ?_
  rintro e w11 ⟨rfl, hm, hb⟩
  rw [lmf6]
  have HM7 := hidI (show MLive w11 B0 b lm7 _ from hm)
  have HB := hidI (HB.out.trans (hb.mono HB1.out))
  clear hm hb HM6
  go_wp2_with fail
  refine (step_l HM7.out (by decide) 0).mono ?_
  rintro e w12 ⟨rfl, hm, hb⟩
  rw [lmf7]
  have HM8 := hidI (show MLive w12 B0 b lm8 _ from hm)
  have HB := hidI (HB.out.trans (hb.mono HB1.out))
  clear hm hb HM7
  go_wp2_with fail
  refine (word_l HM8.out 2).mono ?_
  rintro e w12' ⟨rfl, rfl⟩
  rw [lmw5.1, lmw5.2]
  go_wp2_with fail
  refine (seen_l HM8.out (by decide)).mono ?_
  rintro e w9 ⟨v, ls, rfl, hs, hms, hb⟩
  rw [lms] at hms
  have HB := hidI (HB.out.trans (hb.mono HB.out.size))
  obtain ⟨s, rfl⟩ : ∃ s, ls = [s] := by
    cases ls with
    | nil => simp at hms
    | cons s r =>
      cases r with
      | nil => exact ⟨s, rfl⟩
      | cons s2 r => simp at hms
  have hfin : s.fin = 1 := by simp at hms; exact hms.2
  obtain ⟨ao, cap, rfl⟩ := hs.rows.shape
  obtain ⟨gb, co, rfl, hgb, hcc⟩ := RdT.at encS_len hs.rows (k := 0) (x := s) rfl
  have i1 := hcc 1 _ rfl
  rw [hfin] at i1
  simp only [Nat.zero_mul, Nat.add_zero] at i1
  clear hs hms hb hcc hgb hfin
  go_wp2_with fail
  go_ret
  exact ⟨rfl, HB.out⟩
end Go.Proofs.Ytnechkhgceeejaa

/- Put together by merge.py out of XTsoW.lean.tpl, XTsoZ.lean.tpl, XTsoY.lean.tpl, XTsoEv.lean.tpl, XTsoNa.lean.tpl, XTsoLaw.lean.tpl. -/
import Derived.Test.YthmmbldhbdnfpaaGreatDoorMTsoU
import Derived.Laws.Rows
import Derived.Test.YthmmbldhbdnfpaaGreatDoorMTsoG
namespace Go.Proofs.YthmmbldhbdnfpaaGreatDoor
open Go.RowKit
set_option linter.unusedVariables false
set_option linter.unusedSimpArgs false

section
variable {w w' : World} {base b : Nat}

def oSet (r n : Int) : OpD := ⟨1, 0, r, 0, 0, n⟩
def oStore (a b n : Int) : OpD := ⟨5, 0, a, b, 0, n⟩
def oLoad (a b n : Int) : OpD := ⟨4, 0, a, b, 0, n⟩
theorem set_call (w : World) (r n : Int) : Calls Tryz.prog 41 #[.int .u8 r, .int .i64 n] w fun e w' => e = .returned (.agg (encOp (oSet r n)).toArray) ∧ Below w.heap.size w w' := by
  go_enter Tryz.func41, Tryz.ntmps41
  go_wp2_with fail
  try simp only [Exit.inBlock, Exit.then]
  refine bodyPost_ret (results_cell_row rfl _ _ _ _ (encOp (oSet r n)).toArray (0, 0) _ rfl (heap_alloc_new w _) Tryz.underlying44 rfl (by kernel_rfl)) rfl ?_
  exact ⟨rfl, (Below.refl _ _).alloc (Nat.le_refl _) _⟩
theorem store_call (w : World) (a b n : Int) : Calls Tryz.prog 42 #[.int .u8 a, .int .u8 b, .int .i64 n] w fun e w' => e = .returned (.agg (encOp (oStore a b n)).toArray) ∧ Below w.heap.size w w' := by
  go_enter Tryz.func42, Tryz.ntmps42
  go_wp2_with fail
  try simp only [Exit.inBlock, Exit.then]
  refine bodyPost_ret (results_cell_row rfl _ _ _ _ (encOp (oStore a b n)).toArray (0, 0) _ rfl (heap_alloc_new w _) Tryz.underlying44 rfl (by kernel_rfl)) rfl ?_
  exact ⟨rfl, (Below.refl _ _).alloc (Nat.le_refl _) _⟩
theorem load_call (w : World) (a b n : Int) : Calls Tryz.prog 43 #[.int .u8 a, .int .u8 b, .int .i64 n] w fun e w' => e = .returned (.agg (encOp (oLoad a b n)).toArray) ∧ Below w.heap.size w w' := by
  go_enter Tryz.func43, Tryz.ntmps43
  go_wp2_with fail
  try simp only [Exit.inBlock, Exit.then]
  refine bodyPost_ret (results_cell_row rfl _ _ _ _ (encOp (oLoad a b n)).toArray (0, 0) _ rfl (heap_alloc_new w _) Tryz.underlying44 rfl (by kernel_rfl)) rfl ?_
  exact ⟨rfl, (Below.refl _ _).alloc (Nat.le_refl _) _⟩

/-- made: a machine of few words, without cells -/
theorem made_l {ca : Option Addr} {ccap : Nat} {l : List (Value × List OpD)} (h : CodeAt w (.slice ca l.length ccap) l) (mem : Int) (hl : l.length ≤ 6000000000000) (hk : checkM mem l [] = 0) :
    Calls Tryz.prog 40 #[.int .i64 mem, .slice ca l.length ccap] w fun e w' => ∃ b, e = .returned (.pointer (some ⟨b, 0, none⟩)) ∧ MLive w' w.heap.size b (newM mem (l.map (·.2)) []) 0 ∧ Below w.heap.size w w' := by
  have H := hidI h
  have HL := hidI hl
  have HK := hidI hk
  clear h hl hk
  go_enter Tryz.func40, Tryz.ntmps40
  go_wp2_with fail
  refine (new_yes (cs := []) H.out (Rd.nil w 2) mem HL.out (by simp) HK.out).mono ?_
  rintro e w1 ⟨b, own, xs, mv, tv, rfl, hm, hb⟩
  have HM := hidI (MLive.of hm (newM_ok H.out HK.out))
  have HB := hidI hb
  clear hm hb
  go_wp2_with fail
  go_ret
  exact ⟨_, rfl, HM.out, HB.out⟩

def livesOps : List OpD := [oSet 1 5, oStore 0 1 2, oLoad 2 0 2, ⟨10, 0, 0, 0, 0, 0⟩, ⟨14, 0, 0, 0, 0, 0⟩]
instance (o : OpD) : Decidable (wfOp o) := by unfold wfOp; exact inferInstance
/-- a code of one row, made of literals -/
theorem one_code (w : World) (l : List OpD) (hw : ∀ o ∈ l, wfOp o) : CodeAt ((w.alloc (.cells (l.flatMap encOp).toArray 44)).alloc (.cells #[.slice (some ⟨w.heap.size, 0, none⟩) l.length l.length] 40)) (.slice (some ⟨w.heap.size + 1, 0, none⟩) 1 1)
    [(.slice (some ⟨w.heap.size, 0, none⟩) l.length l.length, l)] := by
  have h1 := heap_alloc_new w (.cells (l.flatMap encOp).toArray 44)
  have h2 := heap_alloc_new (w.alloc (.cells (l.flatMap encOp).toArray 44)) (.cells #[.slice (some ⟨w.heap.size, 0, none⟩) l.length l.length] 40)
  have h3 := (heap_alloc_old (w.alloc (.cells (l.flatMap encOp).toArray 44)) (.cells #[.slice (some ⟨w.heap.size, 0, none⟩) l.length l.length] 40) (show w.heap.size < _ by simp)).trans h1
  rw [World.size_alloc] at h2
  refine ⟨⟨rfl, some ⟨w.heap.size + 1, 0, none⟩, 1, rfl, Nat.le_refl _, fun _ => ⟨_, _, rfl, lt_of_block h2, fun j u hj => ?_⟩⟩, fun p hp => ?_, fun p hp o ho => ?_⟩
  · rw [Nat.zero_add]
    exact cell_of_block h2 (by simpa [encC] using hj)
  · rw [List.mem_singleton.1 hp]
    exact ⟨flat_len encOp_len l, some ⟨w.heap.size, 0, none⟩, l.length, rfl, Nat.le_refl _, fun _ => ⟨_, _, rfl, lt_of_block h3, fun j u hj => by
      rw [Nat.zero_add]
      exact cell_of_block h3 (by rw [List.getElem?_toArray]; exact hj)⟩⟩
  · rw [List.mem_singleton.1 hp] at ho
    exact hw o ho

def lm0 : MM := newM 4 [livesOps] []
def lm1 : MM := (lm0.step 0).2
def lm2 : MM := (lm1.step 0).2
def lm3 : MM := (lm2.step 0).2
def lm4 : MM := (lm3.step 0).2
def lm5 : MM := (lm4.flush 0).2
def lm6 : MM := (lm5.flush 0).2
def lm7 : MM := (lm6.step 0).2
def lm8 : MM := (lm7.step 0).2
theorem lmf0 : (lm0.step 0).1 = true := by kernel_rfl
theorem lmf1 : (lm1.step 0).1 = true := by kernel_rfl
theorem lmf2 : (lm2.step 0).1 = true := by kernel_rfl
theorem lmf3 : (lm3.step 0).1 = false := by kernel_rfl
theorem lmr : ∃ t, lm4.ths[0]? = some t ∧ t.reg 2 = 5 := by
  have h : (lm4.ths[0]?).map (fun t => t.reg 2) = some 5 := by kernel_rfl
  cases hq : lm4.ths[0]? with
  | none => rw [hq] at h; cases h
  | some t => rw [hq] at h; exact ⟨t, rfl, by simpa using h⟩
theorem lmw0 : (if lm4.has 2 = true then lm4.at 2 else 0) = 0 ∧ lm4.has 2 = true := ⟨by kernel_rfl, by kernel_rfl⟩
theorem lmf4 : (lm4.flush 0).1 = true := by kernel_rfl
theorem lmf5 : (lm5.flush 0).1 = false := by kernel_rfl
theorem lmf6 : (lm6.step 0).1 = true := by kernel_rfl
theorem lmf7 : (lm7.step 0).1 = true := by kernel_rfl
theorem lmw5 : (if lm8.has 2 = true then lm8.at 2 else 0) = 5 ∧ lm8.has 2 = true := ⟨by kernel_rfl, by kernel_rfl⟩
theorem lms : lm8.ths.map (fun t => (t.out, t.fin)) = [([], 1)] := by kernel_rfl

set_option maxRecDepth 100000 in
set_option maxHeartbeats 2000000 in
theorem lives_any (w : World) : Calls Tryz.prog 12 #[] w fun e w' => e = .returned (.bool true) ∧ Below w.heap.size w w' := by
  go_enter Tryz.func12, Tryz.ntmps12
  go_wp2_with fail
  refine (set_call _ 1 5).mono ?_
  rintro e w1 ⟨rfl, hb1⟩
  simp only [encOp, oSet]
  go_wp2_with fail
  refine (store_call _ 0 1 2).mono ?_
  rintro e w2 ⟨rfl, hb2⟩
  simp only [encOp, oStore]
  go_wp2_with fail
  refine (load_call _ 2 0 2).mono ?_
  rintro e w3 ⟨rfl, hb3⟩
  simp only [encOp, oLoad]
  have hb := (hb1.trans (hb2.mono hb1.size)).trans (hb3.mono (Nat.le_trans hb1.size hb2.size))
  have HB3 := hidI hb
  clear hb hb1 hb2 hb3
  go_wp2_with fail
  refine (made_l (l := [(.slice (some ⟨w3.heap.size, 0, none⟩) 5 5, livesOps)]) (one_code w3 livesOps (by decide)) 4 (by simp) (by rfl)).mono ?_
  rintro e w4 ⟨b, rfl, hm, hb4⟩
  obtain ⟨B0, hB0⟩ : ∃ B0, B0 = ((w3.alloc (.cells (livesOps.flatMap encOp).toArray 44)).alloc (.cells #[.slice (some ⟨w3.heap.size, 0, none⟩) livesOps.length livesOps.length] 40)).heap.size := ⟨_, rfl⟩
  have hB1 : w.heap.size ≤ B0 := by rw [hB0]; have := HB3.out.size; simp; omega
  have hm0 : MLive w4 B0 b lm0 0 := by rw [hB0]; exact hm
  have HM0 := hidI hm0
  have HB := hidI (HB3.out.trans (((((Below.refl w3.heap.size w3).alloc (Nat.le_refl _) (.cells (livesOps.flatMap encOp).toArray 44)).alloc (by simp) (.cells #[.slice (some ⟨w3.heap.size, 0, none⟩) livesOps.length livesOps.length] 40)).trans (hb4.mono (by simp; omega))).mono HB3.out.size))
  have HB1 := hidI hB1
  clear hm hb4 hB0 hB1 hm0 HB3
  go_wp2_with fail
  refine (step_l HM0.out (by decide) 0).mono ?_
  rintro e w5 ⟨rfl, hm, hb⟩
  rw [lmf0]
  have HM1 := hidI (show MLive w5 B0 b lm1 _ from hm)
  have HB := hidI (HB.out.trans (hb.mono HB1.out))
  clear hm hb HM0
  go_wp2_with fail
  refine (step_l HM1.out (by decide) 0).mono ?_
  rintro e w6 ⟨rfl, hm, hb⟩
  rw [lmf1]
  have HM2 := hidI (show MLive w6 B0 b lm2 _ from hm)
  have HB := hidI (HB.out.trans (hb.mono HB1.out))
  clear hm hb HM1
  go_wp2_with fail
  refine (step_l HM2.out (by decide) 0).mono ?_
  rintro e w7 ⟨rfl, hm, hb⟩
  rw [lmf2]
  have HM3 := hidI (show MLive w7 B0 b lm3 _ from hm)
  have HB := hidI (HB.out.trans (hb.mono HB1.out))
  clear hm hb HM2
  go_wp2_with fail
  refine (step_l HM3.out (by decide) 0).mono ?_
  rintro e w8 ⟨rfl, hm, hb⟩
  rw [lmf3]
  have HM4 := hidI (show MLive w8 B0 b lm4 _ from hm)
  have HB := hidI (HB.out.trans (hb.mono HB1.out))
  clear hm hb HM3
  go_wp2_with fail
  obtain ⟨t0, ht0, hr0⟩ := lmr
  refine (register_l (n := 0) (r := 2) HM4.out ht0 (by decide)).mono ?_
  rintro e w8' ⟨rfl, rfl⟩
  rw [hr0]
  clear hr0 ht0
  go_wp2_with fail
  refine (word_l HM4.out 2).mono ?_
  rintro e w8' ⟨rfl, rfl⟩
  rw [lmw0.1, lmw0.2]
  go_wp2_with fail
  refine (flush_l HM4.out 0).mono ?_
  rintro e w9 ⟨rfl, hm, hb⟩
  rw [lmf4]
  have HM5 := hidI (show MLive w9 B0 b lm5 _ from hm)
  have HB := hidI (HB.out.trans (hb.mono HB1.out))
  clear hm hb HM4
  go_wp2_with fail
  refine (flush_l HM5.out 0).mono ?_
  rintro e w10 ⟨rfl, hm, hb⟩
  rw [lmf5]
  have HM6 := hidI (show MLive w10 B0 b lm6 _ from hm)
  have HB := hidI (HB.out.trans (hb.mono HB1.out))
  clear hm hb HM5
  go_wp2_with fail
  refine (step_l HM6.out (by decide) 0).mono ?_
  rintro e w11 ⟨rfl, hm, hb⟩
  rw [lmf6]
  have HM7 := hidI (show MLive w11 B0 b lm7 _ from hm)
  have HB := hidI (HB.out.trans (hb.mono HB1.out))
  clear hm hb HM6
  go_wp2_with fail
  refine (step_l HM7.out (by decide) 0).mono ?_
  rintro e w12 ⟨rfl, hm, hb⟩
  rw [lmf7]
  have HM8 := hidI (show MLive w12 B0 b lm8 _ from hm)
  have HB := hidI (HB.out.trans (hb.mono HB1.out))
  clear hm hb HM7
  go_wp2_with fail
  refine (word_l HM8.out 2).mono ?_
  rintro e w12' ⟨rfl, rfl⟩
  rw [lmw5.1, lmw5.2]
  go_wp2_with fail
  refine (seen_l HM8.out (by decide)).mono ?_
  rintro e w9 ⟨v, ls, rfl, hs, hms, hb⟩
  rw [lms] at hms
  have HB := hidI (HB.out.trans (hb.mono HB.out.size))
  obtain ⟨s, rfl⟩ : ∃ s, ls = [s] := by
    cases ls with
    | nil => simp at hms
    | cons s r =>
      cases r with
      | nil => exact ⟨s, rfl⟩
      | cons s2 r => simp at hms
  have hfin : s.fin = 1 := by simp at hms; exact hms.2
  obtain ⟨ao, cap, rfl⟩ := hs.rows.shape
  obtain ⟨gb, co, rfl, hgb, hcc⟩ := RdT.at encS_len hs.rows (k := 0) (x := s) rfl
  have i1 := hcc 1 _ rfl
  rw [hfin] at i1
  simp only [Nat.zero_mul, Nat.add_zero] at i1
  clear hs hms hb hcc hgb hfin
  go_wp2_with fail
  go_ret
  exact ⟨rfl, HB.out⟩
end

section
set_option maxHeartbeats 1000000 in
theorem sameEvents_true {w : World} {ao bo : Option Addr} {ca cb : Nat} {l : List Ev} (ha : RdT encEv w 4 (.slice ao l.length ca) l) (hb : RdT encEv w 4 (.slice bo l.length cb) l) (hm : l.length ≤ 9223372036854775807) :
    Calls Tryz.prog 70 #[.slice ao l.length ca, .slice bo l.length cb] w fun e w' => e = .returned (.bool true) ∧ Below w.heap.size w w' := by
  have HA := hidI ha
  have HB := hidI hb
  clear ha hb
  go_enter Tryz.func70, Tryz.ntmps70
  go_wp2
  go_loopw [13] (fun i wr => ∃ k n : Nat, k ≤ l.length ∧ i = .int .i64 k ∧ wr = w.drewN n) (fun i _ => l.length - (intOf i).toNat)
  case atStart => exact ⟨0, 0, Nat.zero_le _, rfl, rfl⟩
  case round =>
    obtain ⟨k, n, hk, rfl, rfl⟩ := hrel
    by_cases hlt : k < l.length
    · obtain ⟨x, hx⟩ := some_at hlt
      obtain ⟨b1, o1, rfl, hs1, hc1⟩ := HA.out.at encEv_len hx
      obtain ⟨b2, o2, rfl, hs2, hc2⟩ := HB.out.at encEv_len hx
      have x0 := hc1 0 _ rfl
      have x1 := hc1 1 _ rfl
      have x2 := hc1 2 _ rfl
      have x3 := hc1 3 _ rfl
      have y0 := hc2 0 _ rfl
      have y1 := hc2 1 _ rfl
      have y2 := hc2 2 _ rfl
      have y3 := hc2 3 _ rfl
      simp only [Nat.add_zero] at x0 y0
      clear hc1 hc2 hx hs1 hs2
      go_wp2_with fail
      go_quiet (fail)
      go_wp2
      exact ⟨⟨k + 1, _, by omega, by go_num, rfl⟩, by simp [intOf]; omega⟩
    · obtain rfl : k = l.length := by omega
      go_wp2
      go_ret
      exact ⟨rfl, below_drewN (Below.refl _ _) n⟩

theorem sameEvents_eq {w : World} {ao bo : Option Addr} {n m ca cb : Nat} {l : List Ev} (ha : Rd w 4 (.slice ao n ca) n (l.flatMap encEv)) (hb : Rd w 4 (.slice bo m cb) m (l.flatMap encEv)) (hn : n = l.length) (hm : m = l.length) (hl : l.length ≤ 9223372036854775807) :
    Calls Tryz.prog 70 #[.slice ao n ca, .slice bo m cb] w fun e w' => e = .returned (.bool true) ∧ Below w.heap.size w w' := by
  subst hn; subst hm
  exact sameEvents_true ha hb hl

set_option maxHeartbeats 1000000 in
theorem sameWides_true {w : World} {ao bo : Option Addr} {ca cb : Nat} {l : List Int} (ha : RdT encI w 1 (.slice ao l.length ca) l) (hb : RdT encI w 1 (.slice bo l.length cb) l) (hm : l.length ≤ 9223372036854775807) :
    Calls Tryz.prog 164 #[.slice ao l.length ca, .slice bo l.length cb] w fun e w' => e = .returned (.bool true) ∧ Below w.heap.size w w' := by
  have HA := hidI ha
  have HB := hidI hb
  clear ha hb
  go_enter Tryz.func164, Tryz.ntmps164
  go_wp2
  go_loopw [13] (fun i wr => ∃ k n : Nat, k ≤ l.length ∧ i = .int .i64 k ∧ wr = w.drewN n) (fun i _ => l.length - (intOf i).toNat)
  case atStart => exact ⟨0, 0, Nat.zero_le _, rfl, rfl⟩
  case round =>
    obtain ⟨k, n, hk, rfl, rfl⟩ := hrel
    by_cases hlt : k < l.length
    · obtain ⟨x, hx⟩ := some_at hlt
      obtain ⟨b1, o1, rfl, hs1, hc1⟩ := HA.out.at encI_len hx
      obtain ⟨b2, o2, rfl, hs2, hc2⟩ := HB.out.at encI_len hx
      have x0 := hc1 0 _ rfl
      have y0 := hc2 0 _ rfl
      simp only [Nat.add_zero, Nat.mul_one] at x0 y0
      clear hc1 hc2 hx hs1 hs2
      go_wp2_with fail
      go_quiet (fail)
      go_wp2
      exact ⟨⟨k + 1, _, by omega, by go_num, rfl⟩, by simp [intOf]; omega⟩
    · obtain rfl : k = l.length := by omega
      go_wp2
      go_ret
      exact ⟨rfl, below_drewN (Below.refl _ _) n⟩

set_option maxHeartbeats 1000000 in
theorem sameSeen_true {w : World} {ao bo : Option Addr} {ca cb : Nat} {l : List Int} (ha : RdT encI w 1 (.slice ao l.length ca) l) (hb : RdT encI w 1 (.slice bo l.length cb) l) (hm : l.length ≤ 9223372036854775807) (k : Int) :
    Calls Tryz.prog 196 #[.agg #[.slice ao l.length ca, .int .u8 k], .agg #[.slice bo l.length cb, .int .u8 k]] w fun e w' => e = .returned (.bool true) ∧ Below w.heap.size w w' := by
  have HA := hidI ha
  have HB := hidI hb
  have HM := hidI hm
  clear ha hb hm
  go_enter Tryz.func196, Tryz.ntmps196
  go_wp2_with fail
  have hb0 : Below w.heap.size w ((w.alloc (.cells #[.slice ao l.length ca, .int .u8 k] 131)).alloc (.cells #[.slice bo l.length cb, .int .u8 k] 131)) := ((Below.refl w.heap.size w).alloc (Nat.le_refl _) _).alloc (by simp) _
  refine (sameWides_true (Rd.below HA.out hb0) (Rd.below HB.out hb0) HM.out).mono ?_
  rintro e w1 ⟨rfl, hb1⟩
  have HB1 := hidI (hb0.trans (hb1.mono hb0.size))
  clear hb0 hb1
  go_wp2_with fail
  go_ret
  exact ⟨rfl, HB1.out⟩
end

section
variable {w w' : World} {base b : Nat} {own own' : Nat → Nat} {mm : MM} {xs : List TX} {mv tv ev : Value}

/-- a machine: where it lies, whose the blocks are, what it is, how many steps at most are behind it -/
structure Mach where
  b : Nat
  own : Nat → Nat
  mm : MM
  N : Nat
def Hot (own : Nat → Nat) (k : Nat) : Prop := own k ≠ 0 ∧ ¬ (5 ≤ own k ∧ own k % 3 = 2)
def Mach.lies (w : World) (base : Nat) (m : Mach) : Prop := (∃ xs mv tv ev, MAt w base m.b m.own m.mm xs mv tv ev) ∧ MOk m.N m.mm
structure Fleet (w : World) (base : Nat) (l : List Mach) : Prop where
  each : ∀ m ∈ l, m.lies w base
  apart : ∀ (i j : Nat) m n, i ≠ j → l[i]? = some m → l[j]? = some n → ∀ k, n.own k ≠ 0 → ¬ Hot m.own k
  low : ∀ m ∈ l, ∀ k, m.own k ≠ 0 → base ≤ k
  here : base ≤ w.heap.size

theorem MAt.base_mono {base0 : Nat} (h : MAt w base b own mm xs mv tv ev) (hb : base0 ≤ base) : MAt w base0 b own mm xs mv tv ev :=
  ⟨h.blk, ⟨Nat.le_trans hb h.bT.1, h.bT.2⟩, ownsRow_mono h.mem hb, h.memT, ownsRow_mono h.ths hb, h.thsT, ownsRow_mono h.evs hb, h.evsT, h.same, fun i x hx => by
    have ht := h.th i x hx
    exact ⟨ht.code, fun g hn hg => ⟨Nat.le_trans hb (ht.codeT g hn hg).1, (ht.codeT g hn hg).2⟩, ht.ring, ⟨Nat.le_trans hb ht.ringT.1, ht.ringT.2⟩, ownsRow_mono ht.out hb, ht.outT⟩, h.fresh⟩

theorem Fleet.none (w : World) {base : Nat} (hb : base ≤ w.heap.size) : Fleet w base [] := ⟨fun m hm => absurd hm (by simp), fun i j m n _ hi => by simp at hi, fun m hm => absurd hm (by simp), hb⟩
theorem Fleet.below {l : List Mach} (h : Fleet w base l) (hb : Below w.heap.size w w') : Fleet w' base l :=
  ⟨fun m hm => by
    obtain ⟨⟨xs, mv, tv, ev, h1⟩, h2⟩ := h.each m hm
    exact ⟨⟨xs, mv, tv, ev, h1.below hb⟩, h2⟩, h.apart, h.low, Nat.le_trans h.here hb.size⟩
/-- a machine that was left alone -/
def MGoesKept (w w' : World) (base : Nat) (n : Mach) : Prop := n.lies w' base ∧ ∀ k, w.heap.size ≤ k → n.own k = 0
/-- a change of one machine -/
theorem Fleet.goes {l : List Mach} (h : Fleet w base l) {i : Nat} {m : Mach} (hi : l[i]? = some m) {mm' : MM} {N' : Nat} (hg : MGoes w base m.b m.own mm' w') (hk : MOk N' mm') : (∃ own', Fleet w' base (l.set i ⟨m.b, own', mm', N'⟩)) ∧ Below base w w' := by
  obtain ⟨⟨own', xs', mv', tv', ev', h', ho⟩, hc⟩ := hg
  have hm := List.mem_of_getElem? hi
  obtain ⟨⟨xs, mv, tv, ev, h1⟩, -⟩ := h.each m hm
  have hlt := (List.getElem?_eq_some_iff.1 hi).1
  have hlow' : ∀ k, own' k ≠ 0 → base ≤ k := fun k hn => by
    by_cases e : k < w.heap.size
    · exact h.low m hm k (by rw [← ho k e]; exact hn)
    · have := h.here; omega
  have hold : ∀ (j : Nat) n, l[j]? = some n → j ≠ i → MGoesKept w w' base n := fun j n hj hne => by
    obtain ⟨⟨xs2, mv2, tv2, ev2, h2⟩, hk2⟩ := h.each n (List.mem_of_getElem? hj)
    exact ⟨⟨⟨xs2, mv2, tv2, ev2, h2.chg hc (fun k hn => h.apart i j m n (Ne.symm hne) hi hj k hn)⟩, hk2⟩, fun k hk => h2.fresh k hk⟩
  have hget : ∀ (j : Nat) n, (l.set i ⟨m.b, own', mm', N'⟩)[j]? = some n → (j = i ∧ n = ⟨m.b, own', mm', N'⟩) ∨ (j ≠ i ∧ l[j]? = some n) := fun j n hj => by
    by_cases e : i = j
    · subst e
      rw [List.getElem?_set_self hlt] at hj
      exact .inl ⟨rfl, (Option.some.inj hj).symm⟩
    · rw [List.getElem?_set_ne e] at hj
      exact .inr ⟨fun q => e q.symm, hj⟩
  refine ⟨⟨own', fun n hn => ?_, fun j1 j2 n1 n2 hne h1' h2' k hk' => ?_, fun n hn k hk' => ?_, Nat.le_trans h.here hc.size⟩, hc.to_below h.here (fun k e => h.low m hm k e.1)⟩
  · obtain ⟨j, hj⟩ := List.getElem?_of_mem hn
    rcases hget j n hj with ⟨rfl, rfl⟩ | ⟨hne, hj'⟩
    · exact ⟨⟨xs', mv', tv', ev', h'⟩, hk⟩
    · exact (hold j n hj' hne).1
  · rcases hget j1 n1 h1' with ⟨rfl, rfl⟩ | ⟨hne1, hj1⟩
    · rcases hget j2 n2 h2' with ⟨rfl, -⟩ | ⟨hne2, hj2⟩
      · exact absurd rfl hne
      · by_cases e : k < w.heap.size
        · have := h.apart j1 j2 m n2 hne hi hj2 k hk'
          unfold Hot at this ⊢
          rw [show (Mach.own ⟨m.b, own', mm', N'⟩) k = m.own k from ho k e]
          exact this
        · exact absurd ((hold j2 n2 hj2 hne2).2 k (by omega)) hk'
    · rcases hget j2 n2 h2' with ⟨rfl, rfl⟩ | ⟨hne2, hj2⟩
      · by_cases e : k < w.heap.size
        · exact h.apart j1 j2 n1 m hne hj1 hi k (by rw [← ho k e]; exact hk')
        · intro hh
          exact hh.1 ((hold j1 n1 hj1 hne1).2 k (by omega))
      · exact h.apart j1 j2 n1 n2 hne hj1 hj2 k hk'
  · obtain ⟨j, hj⟩ := List.getElem?_of_mem hn
    rcases hget j n hj with ⟨rfl, rfl⟩ | ⟨hne, hj'⟩
    · exact hlow' k hk'
    · exact h.low n (List.mem_of_getElem? hj') k hk'

/-- one more machine, made of new memory alone -/
theorem Fleet.more {l : List Mach} (h : Fleet w base l) (hb : Below w.heap.size w w') {mm : MM} {N : Nat} (hm : MAt w' w.heap.size b own mm xs mv tv ev) (hk : MOk N mm) : ∃ own', Fleet w' base (l ++ [⟨b, own', mm, N⟩]) := by
  have h1 := h.below hb
  have h2 := hm.low.base_mono h.here
  have hn : ∀ k, lowT own w.heap.size k ≠ 0 → w.heap.size ≤ k := fun k hn => by
    rcases Nat.lt_or_ge k w.heap.size with e | e
    · exact absurd (if_pos e) hn
    · exact e
  have hf : ∀ n ∈ l, ∀ k, w.heap.size ≤ k → n.own k = 0 := fun n hn k hk => by
    obtain ⟨⟨xs2, mv2, tv2, ev2, h3⟩, -⟩ := h.each n hn
    exact h3.fresh k hk
  have hget : ∀ (j : Nat) n, (l ++ [(⟨b, lowT own w.heap.size, mm, N⟩ : Mach)])[j]? = some n → (j < l.length ∧ l[j]? = some n) ∨ (j = l.length ∧ n = ⟨b, lowT own w.heap.size, mm, N⟩) := fun j n hj => by
    rcases Nat.lt_or_ge j l.length with e | e
    · rw [List.getElem?_append_left e] at hj
      exact .inl ⟨e, hj⟩
    · rw [List.getElem?_append_right e] at hj
      have hl := (List.getElem?_eq_some_iff.1 hj).1
      simp only [List.length_singleton] at hl
      have : j - l.length = 0 := by omega
      rw [this] at hj
      simp at hj
      exact .inr ⟨by omega, hj.symm⟩
  refine ⟨lowT own w.heap.size, fun n hn' => ?_, fun j1 j2 n1 n2 hne hj1 hj2 k hk' => ?_, fun n hn' k hk' => ?_, Nat.le_trans h.here hb.size⟩
  · rcases List.mem_append.1 hn' with e | e
    · exact h1.each n e
    · rw [List.mem_singleton.1 e]
      exact ⟨⟨xs, mv, tv, ev, h2⟩, hk⟩
  · rcases hget j1 n1 hj1 with ⟨l1, e1⟩ | ⟨l1, rfl⟩
    · rcases hget j2 n2 hj2 with ⟨l2, e2⟩ | ⟨l2, rfl⟩
      · exact h.apart j1 j2 n1 n2 hne e1 e2 k hk'
      · exact fun hh => hh.1 (hf n1 (List.mem_of_getElem? e1) k (hn k hk'))
    · rcases hget j2 n2 hj2 with ⟨l2, e2⟩ | ⟨l2, rfl⟩
      · refine fun hh => ?_
        have := hn k hh.1
        exact hk' (hf n2 (List.mem_of_getElem? e2) k this)
      · omega
  · rcases List.mem_append.1 hn' with e | e
    · exact h.low n e k hk'
    · rw [List.mem_singleton.1 e] at hk'
      have := hn k hk'
      have := h.here
      omega

theorem step_f {l : List Mach} (h : Fleet w base l) {i : Nat} {m : Mach} (hi : l[i]? = some m) (hN : m.N < 1000000000) (z : Int) :
    Calls Tryz.prog 13 #[.pointer (some ⟨m.b, 0, none⟩), .int .i64 z] w fun r w' => r = .returned (.bool (m.mm.step z).1) ∧ (∃ own', Fleet w' base (l.set i ⟨m.b, own', (m.mm.step z).2, m.N + 1⟩)) ∧ Below base w w' := by
  obtain ⟨⟨xs, mv, tv, ev, hm⟩, hk⟩ := h.each m (List.mem_of_getElem? hi)
  refine (step_any hm hk hN z).mono ?_
  rintro r w' ⟨rfl, hg⟩
  exact ⟨rfl, h.goes hi hg (hk.step z)⟩
theorem flush_f {l : List Mach} (h : Fleet w base l) {i : Nat} {m : Mach} (hi : l[i]? = some m) (z : Int) :
    Calls Tryz.prog 15 #[.pointer (some ⟨m.b, 0, none⟩), .int .i64 z] w fun r w' => r = .returned (.bool (m.mm.flush z).1) ∧ (∃ own', Fleet w' base (l.set i ⟨m.b, own', (m.mm.flush z).2, m.N⟩)) ∧ Below base w w' := by
  obtain ⟨⟨xs, mv, tv, ev, hm⟩, hk⟩ := h.each m (List.mem_of_getElem? hi)
  refine (flush_any hm hk z).mono ?_
  rintro r w' ⟨rfl, hg⟩
  exact ⟨rfl, h.goes hi hg (hk.flush z)⟩
end

section
variable {w w' : World} {base b : Nat} {own own' : Nat → Nat} {mm : MM} {xs : List TX} {mv tv ev : Value}

set_option maxHeartbeats 1000000 in
theorem events_any (h : MAt w base b own mm xs mv tv ev) (hl : mm.evs.length ≤ 1000000000) :
    Calls Tryz.prog 67 #[.pointer (some ⟨b, 0, none⟩)] w (CloneRow 154 4 encEv mm.evs w) := by
  obtain ⟨ao, cp, rfl⟩ := ownsRow_shape h.evs
  have c3 := h.wcell 3 _ rfl
  have HR := hidI (Rd.of_own h.evs)
  have HL := hidI hl
  clear h hl
  go_enter Tryz.func67, Tryz.ntmps67
  go_wp2_with fail
  refine (cloneEvs_any HR.out HL.out).mono ?_
  rintro e w1 ⟨cv, rfl, ho, hb⟩
  have HO := hidI ho
  have HB := hidI hb
  clear ho hb
  go_wp2_with fail
  go_ret
  exact ⟨_, rfl, HO.out, HB.out⟩

set_option maxHeartbeats 1000000 in
theorem at_yes {tb cap n : Nat} {x : TX} (h : MAt w base b own mm xs mv (.slice (some ⟨tb, 0, none⟩) xs.length cap) ev) (hx : xs[n]? = some x) :
    Calls Tryz.prog 64 #[.pointer (some ⟨b, 0, none⟩), .int .i64 (n : Int)] w fun e w' => e = .returned (.tuple #[.int .i64 x.th.at_, .bool true]) ∧ w' = w := by
  have e9 := h.cell hx 9 _ rfl
  have H := hidI h
  have HX := hidI hx
  clear h hx
  go_enter Tryz.func64, Tryz.ntmps64
  go_wp2_with fail
  refine (of_yes H.out HX.out).mono ?_
  rintro e w1 ⟨rfl, rfl⟩
  go_wp2_with fail
  go_ret2
  exact ⟨rfl, rfl⟩

set_option maxHeartbeats 1000000 in
theorem at_no (h : MAt w base b own mm xs mv tv ev) {z : Int} (hz : z < 0 ∨ (xs.length : Int) ≤ z) :
    Calls Tryz.prog 64 #[.pointer (some ⟨b, 0, none⟩), .int .i64 z] w fun e w' => e = .returned (.tuple #[.int .i64 0, .bool false]) ∧ w' = w := by
  have H := hidI h
  clear h
  go_enter Tryz.func64, Tryz.ntmps64
  go_wp2_with fail
  refine (of_no H.out hz).mono ?_
  rintro e w1 ⟨rfl, rfl⟩
  go_wp2_with fail
  go_ret2
  exact ⟨rfl, rfl⟩

set_option maxHeartbeats 1000000 in
theorem waiting_yes {tb cap n : Nat} {x : TX} (h : MAt w base b own mm xs mv (.slice (some ⟨tb, 0, none⟩) xs.length cap) ev) (hx : xs[n]? = some x) :
    Calls Tryz.prog 65 #[.pointer (some ⟨b, 0, none⟩), .int .i64 (n : Int)] w (AllPost x.th.wait w) := by
  have e10 := h.cell hx 10 _ rfl
  obtain ⟨c, f, hr⟩ := (h.th n x hx).ring
  have HR := hidI hr
  have H := hidI h
  have HX := hidI hx
  clear h hx hr
  go_enter Tryz.func65, Tryz.ntmps65
  go_wp2_with fail
  refine (of_yes H.out HX.out).mono ?_
  rintro e w1 ⟨rfl, rfl⟩
  go_wp2_with fail
  refine (all_yes HR.out).mono ?_
  rintro e w1 ⟨g, rfl, ho, hb⟩
  have HO := hidI ho
  have HB := hidI hb
  clear ho hb HR
  go_wp2_with fail
  go_ret
  exact ⟨_, rfl, HO.out, HB.out⟩

set_option maxHeartbeats 1000000 in
theorem waiting_no (h : MAt w base b own mm xs mv tv ev) {z : Int} (hz : z < 0 ∨ (xs.length : Int) ≤ z) :
    Calls Tryz.prog 65 #[.pointer (some ⟨b, 0, none⟩), .int .i64 z] w fun e w' => e = .returned (.slice none 0 0) ∧ w' = w := by
  have H := hidI h
  clear h
  go_enter Tryz.func65, Tryz.ntmps65
  go_wp2_with fail
  refine (of_no H.out hz).mono ?_
  rintro e w1 ⟨rfl, rfl⟩
  go_wp2_with fail
  go_ret
  exact ⟨rfl, rfl⟩

set_option maxHeartbeats 1000000 in
theorem register_no (h : MAt w base b own mm xs mv tv ev) {z : Int} (r : Int) (hz : z < 0 ∨ (xs.length : Int) ≤ z) :
    Calls Tryz.prog 44 #[.pointer (some ⟨b, 0, none⟩), .int .i64 z, .int .i64 r] w fun e w' => e = .returned (.tuple #[.int .i64 0, .bool false]) ∧ w' = w := by
  have H := hidI h
  clear h
  go_enter Tryz.func44, Tryz.ntmps44
  go_wp2_with fail
  refine (of_no H.out hz).mono ?_
  rintro e w1 ⟨rfl, rfl⟩
  go_wp2_with fail
  go_ret2
  exact ⟨rfl, rfl⟩
end

section
variable {w w' : World} {base b : Nat}

/-- code out of a literal list of rows -/
theorem lit_code {g : Nat} {T : TypeId} {l : List (Value × List OpD)} (hg : w.heap[g]? = some (.cells (l.flatMap encC).toArray T (0, 0))) (he : ∀ p ∈ l, RdT encOp w 6 p.1 p.2) (hw : ∀ p ∈ l, ∀ o ∈ p.2, wfOp o) :
    CodeAt w (.slice (some ⟨g, 0, none⟩) l.length l.length) l :=
  ⟨⟨flat_len encC_len l, some ⟨g, 0, none⟩, l.length, rfl, Nat.le_refl _, fun _ => ⟨g, 0, rfl, lt_of_block hg, fun j u hj => by
    rw [Nat.zero_add]
    exact cell_of_block hg (by rw [List.getElem?_toArray]; exact hj)⟩⟩, he, hw⟩
/-- a row of literals -/
theorem lit_ops {g : Nat} {l : List OpD} (hg : w.heap[g]? = some (.cells (l.flatMap encOp).toArray 44 (0, 0))) : RdT encOp w 6 (.slice (some ⟨g, 0, none⟩) l.length l.length) l :=
  ⟨flat_len encOp_len l, some ⟨g, 0, none⟩, l.length, rfl, Nat.le_refl _, fun _ => ⟨g, 0, rfl, lt_of_block hg, fun j u hj => by
    rw [Nat.zero_add]
    exact cell_of_block hg (by rw [List.getElem?_toArray]; exact hj)⟩⟩
/-- made, beside other machines -/
theorem made_f {ca : Option Addr} {ccap : Nat} {l : List (Value × List OpD)} {ms : List Mach} (hf : Fleet w base ms) (h : CodeAt w (.slice ca l.length ccap) l) (mem : Int) (hl : l.length ≤ 6000000000000) (hk : checkM mem l [] = 0) :
    Calls Tryz.prog 40 #[.int .i64 mem, .slice ca l.length ccap] w fun e w' => ∃ b own', e = .returned (.pointer (some ⟨b, 0, none⟩)) ∧ Fleet w' base (ms ++ [⟨b, own', newM mem (l.map (·.2)) [], 0⟩]) ∧ Below w.heap.size w w' := by
  refine (made_l h mem hl hk).mono ?_
  rintro e w' ⟨b, rfl, ⟨own, xs, mv, tv, ev, hm, -, hok⟩, hb⟩
  obtain ⟨own', h'⟩ := hf.more hb hm hok
  exact ⟨b, own', rfl, h', hb⟩
theorem register_f {ms : List Mach} (hf : Fleet w base ms) {i : Nat} {m : Mach} (hi : ms[i]? = some m) {n r : Nat} {t : MT} (ht : m.mm.ths[n]? = some t) (hr : r < 8) :
    Calls Tryz.prog 44 #[.pointer (some ⟨m.b, 0, none⟩), .int .i64 (n : Int), .int .i64 (r : Int)] w fun e w' => e = .returned (.tuple #[.int .i64 (t.reg r), .bool true]) ∧ w' = w := by
  obtain ⟨⟨xs, mv, tv, ev, hm⟩, hk⟩ := hf.each m (List.mem_of_getElem? hi)
  exact register_l (MLive.of hm hk) ht hr
theorem word_f {ms : List Mach} (hf : Fleet w base ms) {i : Nat} {m : Mach} (hi : ms[i]? = some m) (z : Int) :
    Calls Tryz.prog 45 #[.pointer (some ⟨m.b, 0, none⟩), .int .i64 z] w fun r w' => r = .returned (.tuple #[.int .i64 (if m.mm.has z = true then m.mm.at z else 0), .bool (m.mm.has z)]) ∧ w' = w := by
  obtain ⟨⟨xs, mv, tv, ev, hm⟩, hk⟩ := hf.each m (List.mem_of_getElem? hi)
  exact word_any hm hk.mem.2 z
theorem seen_f {ms : List Mach} (hf : Fleet w base ms) {i : Nat} {m : Mach} (hi : ms[i]? = some m) (hN : m.N ≤ 1000000000) :
    Calls Tryz.prog 46 #[.pointer (some ⟨m.b, 0, none⟩)] w (SeenPost m.mm w) := by
  obtain ⟨⟨xs, mv, tv, ev, hm⟩, hk⟩ := hf.each m (List.mem_of_getElem? hi)
  exact seen_l (MLive.of hm hk) hN
theorem events_f {ms : List Mach} (hf : Fleet w base ms) {i : Nat} {m : Mach} (hi : ms[i]? = some m) (hN : m.N ≤ 1000000000) :
    Calls Tryz.prog 67 #[.pointer (some ⟨m.b, 0, none⟩)] w (CloneRow 154 4 encEv m.mm.evs w) := by
  obtain ⟨⟨xs, mv, tv, ev, hm⟩, hk⟩ := hf.each m (List.mem_of_getElem? hi)
  exact events_any hm (Nat.le_trans hk.evs hN)
end

section
/-- what a step does is an act, a stop, or nothing -/
theorem step_cases (m : MM) (z : Int) (P : Bool × MM → Prop) (h0 : P (false, m)) (h1 : ∀ t, m.thr z = some t → t.fin = 0 → P (true, m.stop z.toNat t 8))
    (h2 : ∀ t o a, m.thr z = some t → t.fin = 0 → 0 ≤ t.at_ → t.code[t.at_.toNat]? = some o → P (true, m.act z.toNat t o a)) : P (m.step z) := by
  unfold MM.step
  split
  · exact h0
  · rename_i t ht
    split
    · exact h0
    · rename_i hf
      have hf' : t.fin = 0 := by simpa using hf
      unfold MM.go
      split
      · exact h1 t ht hf'
      · rename_i o ho
        have h3 : 0 ≤ t.at_ ∧ t.code[t.at_.toNat]? = some o := by
          split at ho
          · cases ho
          · exact ⟨by omega, ho⟩
        split
        · split
          · exact h0
          · exact h2 t o 0 ht hf' h3.1 h3.2
        · split
          · split
            · exact h0
            · exact h2 t o _ ht hf' h3.1 h3.2
          · exact h1 t ht hf'
/-- no other thread is changed -/
theorem step_other (m : MM) (z : Int) {i : Nat} (hi : (i : Int) ≠ z) : (m.step z).2.ths[i]? = m.ths[i]? := by
  refine step_cases m z (fun q => q.2.ths[i]? = m.ths[i]?) rfl (fun t ht _ => ?_) (fun t o a ht _ _ _ => ?_)
  · have h0 := (thr_mem ht).1
    have hne : z.toNat ≠ i := by omega
    simp [MM.stop, MM.tell, MM.put, List.getElem?_set_ne hne]
  · have h0 := (thr_mem ht).1
    have hne : z.toNat ≠ i := by omega
    have hs : ∀ t' k, (m.stop z.toNat t' k).ths[i]? = m.ths[i]? := fun t' k => by simp [MM.stop, MM.tell, MM.put, List.getElem?_set_ne hne]
    exact act_cases m z.toNat t o a (fun q => q.ths[i]? = m.ths[i]?) (fun i v => by simp [MM.put, List.getElem?_set_ne hne]) (fun k => hs _ _) (fun _ => by simp [MM.put, List.getElem?_set_ne hne]) (fun _ => by simp [MM.put, List.getElem?_set_ne hne]) (by simp [MM.put, List.getElem?_set_ne hne])
      (fun l i v hl _ => by simp [MM.put, List.getElem?_set_ne hne]) (by simp [MM.put, MM.tell, List.getElem?_set_ne hne]) (fun k x y => by simp [MM.put, MM.tell, List.getElem?_set_ne hne]) (fun i v => by simp [MM.put, MM.tell, List.getElem?_set_ne hne]) rfl
/-- memory is changed by OpCas and OpXadd alone -/
theorem step_memory (m : MM) (z : Int) (h : ∀ t o, m.thr z = some t → 0 ≤ t.at_ → t.code[t.at_.toNat]? = some o → o.kind ≠ 8 ∧ o.kind ≠ 9) : (m.step z).2.mem = m.mem := by
  refine step_cases m z (fun q => q.2.mem = m.mem) rfl (fun t _ _ => by simp [MM.stop, MM.tell, MM.put]) (fun t o a ht _ h0 ho => ?_)
  have hk := h t o ht h0 ho
  exact act_cases m z.toNat t o a (fun q => q.mem = m.mem) (fun i v => by simp [MM.put]) (fun k => by simp [MM.stop, MM.tell, MM.put]) (fun _ => by simp [MM.put]) (fun _ => by simp [MM.put]) (by simp [MM.put])
    (fun l i v hl hk' => by omega) (by simp [MM.put, MM.tell]) (fun k x y => by simp [MM.put, MM.tell]) (fun i v => by simp [MM.put, MM.tell]) rfl
/-- a step that is none changes nothing -/
theorem step_false (m : MM) (z : Int) (h : (m.step z).1 = false) : (m.step z).2 = m := by
  revert h
  exact step_cases m z (fun q => q.1 = false → q.2 = m) (fun _ => rfl) (fun t _ _ h => by cases h) (fun t o a _ _ _ _ h => by cases h)
/-- what was told stays told -/
theorem step_events (m : MM) (z : Int) : m.evs <+: (m.step z).2.evs := by
  have hs : ∀ n t k, m.evs <+: (m.stop n t k).evs := fun n t k => by simp [MM.stop, MM.tell, MM.put]
  refine step_cases m z (fun q => m.evs <+: q.2.evs) (List.prefix_refl _) (fun t _ _ => hs _ _ _) (fun t o a _ _ _ _ => ?_)
  exact act_cases m z.toNat t o a (fun q => m.evs <+: q.evs) (fun i v => by simp [MM.put]) (fun k => hs _ _ _) (fun _ => by simp [MM.put]) (fun _ => by simp [MM.put]) (by simp [MM.put])
    (fun l i v hl _ => by simp [MM.put]) (by simp [MM.put, MM.tell]) (fun k x y => by simp [MM.put, MM.tell]) (fun i v => by simp [MM.put, MM.tell]) (List.prefix_refl _)
end

end Go.Proofs.YthmmbldhbdnfpaaGreatDoor

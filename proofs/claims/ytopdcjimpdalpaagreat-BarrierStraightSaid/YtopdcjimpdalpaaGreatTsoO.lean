/- Package tso: Check. -/
import Derived.Test.YtopdcjimpdalpaaGreatTsoN
import Derived.Test.YtopdcjimpdalpaaGreatMBufA
namespace Go.Proofs.YtopdcjimpdalpaaGreat
open Go.RowKit
set_option linter.unusedVariables false
set_option linter.unusedSimpArgs false

variable {w w' : World}

/-- code, row by row: each row's slice and what it reads -/
def encC (p : Value × List OpD) : List Value := [p.1]
theorem encC_len : ∀ p, (encC p).length = 1 := fun _ => rfl
structure CodeAt (w : World) (v : Value) (l : List (Value × List OpD)) : Prop where
  rows : RdT encC w 1 v l
  each : ∀ p ∈ l, RdT encOp w 6 p.1 p.2
  wf : ∀ p ∈ l, ∀ o ∈ p.2, wfOp o
theorem CodeAt.below {v : Value} {l : List (Value × List OpD)} (h : CodeAt w v l) (hb : Below w.heap.size w w') : CodeAt w' v l := ⟨Rd.below h.rows hb, fun p hp => Rd.below (h.each p hp) hb, h.wf⟩

def countS (l : List (Value × List OpD)) : Nat := (l.map fun p => min p.2.length 262145).sum
def cellsOk (mem : Int) : Int → List (Int × Int) → Bool
  | _, [] => true
  | last, c :: r => decide (last < c.1 ∧ c.1 < mem) && cellsOk mem c.1 r
def checkM (mem : Int) (l : List (Value × List OpD)) (cs : List (Int × Int)) : Int :=
  if 262144 < mem ∨ 4 < l.length ∨ 262144 < countS l then 3
  else if mem < 1 then 1
  else if (l.all fun p => p.2.all checkS) = false then 1
  else if cellsOk mem (-1) cs = false then 1
  else 0

theorem count_step {l : List (Value × List OpD)} {k : Nat} {p : Value × List OpD} (h : l[k]? = some p) : countS (l.take (k + 1)) = countS (l.take k) + min p.2.length 262145 := by
  unfold countS
  rw [List.take_add_one, h]
  simp
theorem count_le (l : List (Value × List OpD)) : countS l ≤ l.length * 262145 := by
  unfold countS
  induction l with
  | nil => simp
  | cons p r ih => simp only [List.map_cons, List.sum_cons, List.length_cons]; have : min p.2.length 262145 ≤ 262145 := Nat.min_le_right _ _; omega
theorem count_take_le (l : List (Value × List OpD)) (k : Nat) : countS (l.take k) ≤ l.length * 262145 := Nat.le_trans (count_le _) (Nat.mul_le_mul_right _ (by rw [List.length_take]; exact Nat.min_le_right _ _))
theorem count_each {l : List (Value × List OpD)} (h : countS l ≤ 262144) : ∀ p ∈ l, p.2.length ≤ 262144 := by
  induction l with
  | nil => exact fun p hp => absurd hp (by simp)
  | cons q r ih =>
    unfold countS at h ih
    simp only [List.map_cons, List.sum_cons] at h
    intro p hp
    rcases List.mem_cons.1 hp with rfl | e
    · omega
    · exact ih (by omega) p e

theorem cell_allocU {w : World} {a : Addr} {u : Value} (h : w.cell? a = some u) (o : Obj) : (w.alloc o).cell? a = some u := by
  rw [World.cell?_of_block (w := w) (heap_alloc_old w o (World.block_lt_of_cell? w a h))]; exact h

set_option maxRecDepth 100000 in
set_option maxHeartbeats 2000000 in
theorem checkM_any {ca cca : Option Addr} {ccap ccca : Nat} {l : List (Value × List OpD)} {cs : List (Int × Int)} (h : CodeAt w (.slice ca l.length ccap) l) (hc : RdT encCell w 2 (.slice cca cs.length ccca) cs) (mem : Int) (hl : l.length ≤ 6000000000000) (hcl : cs.length ≤ 9000000000000) :
    Calls Tryz.prog 96 #[.agg #[.slice ca l.length ccap, .int .i64 mem, .slice cca cs.length ccca]] w fun e w' => e = .returned (.int .i64 (checkM mem l cs)) ∧ Below w.heap.size w w' := by
  have H := hidI h
  have HC := hidI hc
  have HL := hidI hl
  have HCL := hidI hcl
  have hb0 : Below w.heap.size w (w.alloc (Obj.cells #[.slice ca l.length ccap, .int .i64 mem, .slice cca cs.length ccca] 30)) := (Below.refl _ _).alloc (Nat.le_refl _) _
  have hbox := block_new w (.cells #[.slice ca l.length ccap, .int .i64 mem, .slice cca cs.length ccca] 30)
  have H0 := hidI (h.below hb0)
  have HC0 := hidI (Rd.below hc hb0)
  have HB := hidI hb0
  have hw0 : w.heap.size < (w.alloc (Obj.cells #[.slice ca l.length ccap, .int .i64 mem, .slice cca cs.length ccca] 30)).heap.size := by simp
  have d0 := cell_of_block (o := 0) hbox rfl
  have d1 := cell_of_block (o := 1) hbox rfl
  have d2 := cell_of_block (o := 2) hbox rfl
  have HKB := hidI hbox
  clear h hc hl hcl hb0 hbox
  go_enter Tryz.func96, Tryz.ntmps96
  go_wp2_with fail
  generalize (w.alloc (Obj.cells #[.slice ca l.length ccap, .int .i64 mem, .slice cca cs.length ccca] 30)) = w0 at H0 HC0 HB hw0 d0 d1 d2 HKB ⊢
  go_loopw [3, 14] (fun c i w' => ∃ k : Nat, k ≤ l.length ∧ i = .int .i64 (k : Int) ∧ c = .int .i64 (countS (l.take k) : Int) ∧ w' = w0) (fun c i _ => ((l.length : Int) - intOf i).toNat)
  case atStart => exact ⟨0, by omega, rfl, by simp [countS], rfl⟩
  case round =>
    obtain ⟨k, hk, rfl, rfl, rfl⟩ := hrel
    by_cases hlt : k < l.length
    · have hp := List.getElem?_eq_getElem hlt
      generalize l[k] = p at hp
      obtain ⟨cb, co, rfl, hcb, hcc⟩ := RdT.at encC_len H0.out.rows hp
      have i0 := hcc 0 _ rfl
      obtain ⟨ao, cap, hcv⟩ := (H0.out.each p (List.mem_of_getElem? hp)).shape
      have hst := count_step hp
      rw [Nat.mul_one, Nat.add_zero, hcv] at i0
      have hct := count_take_le l k
      have HST := hidI hst
      clear hst
      go_wp2_with fail
      have hL := HL.out
      have hk1 : wrap64 ((k : Int) + 1) = ((k + 1 : Nat) : Int) := by unfold wrap64; omega
      have hc1 : wrap64 ((countS (l.take k) : Int) + if 262145 < (p.2.length : Int) then 262145 else (p.2.length : Int)) = ((countS (l.take (k + 1)) : Nat) : Int) := by
        rw [HST.out]
        unfold wrap64
        split <;> omega
      refine ⟨⟨k + 1, by omega, by rw [hk1], by rw [hc1], trivial⟩, ?_⟩
      rw [hk1]
      simp only [intOf]
      omega
    · obtain rfl : k = l.length := by omega
      rw [List.take_length]
      by_cases hA : 262144 < mem ∨ 4 < l.length ∨ 262144 < countS l
      · have HE := hidI (show checkM mem l cs = 3 from by unfold checkM; rw [if_pos hA])
        by_cases a1 : 262144 < mem
        · clear hA
          go_wp2_with fail
          go_ret
          exact ⟨by rw [HE.out]; rfl, HB.out⟩
        · by_cases a2 : 4 < l.length
          · have a2' : (4 : Int) < (l.length : Int) := by omega
            clear hA a2
            go_wp2_with fail
            go_ret
            exact ⟨by rw [HE.out]; rfl, HB.out⟩
          · have a2' : ¬ (4 : Int) < (l.length : Int) := by omega
            have a3' : (262144 : Int) < (countS l : Int) := by omega
            clear hA a2
            go_wp2_with fail
            go_ret
            exact ⟨by rw [HE.out]; rfl, HB.out⟩
      · have a1 : ¬ 262144 < mem := by omega
        have a2' : ¬ (4 : Int) < (l.length : Int) := by omega
        have a3' : ¬ (262144 : Int) < (countS l : Int) := by omega
        have HA := hidI hA
        have h4 : l.length ≤ 4 := by omega
        have HEACH := hidI (count_each (l := l) (by omega))
        clear hA
        by_cases hm : mem < 1
        · go_wp2_with fail
          go_ret
          refine ⟨?_, HB.out⟩
          rw [show checkM mem l cs = 1 from by unfold checkM; rw [if_neg HA.out, if_pos hm]]
          rfl
        · go_wp2_with fail
          have HM := hidI hm
          clear a1 a2' a3' hm
          go_loopw [45] (fun i w' => ∃ k : Nat, k ≤ l.length ∧ i = .int .i64 (k : Int) ∧ Hid (Below wr.heap.size wr w' ∧ ∀ j (p : Value × List OpD), j < k → l[j]? = some p → p.2.all checkS = true)) (fun i _ => ((l.length : Int) - intOf i).toNat)
          case atStart => exact ⟨0, by omega, rfl, ⟨Below.refl _ _, fun j p hj => absurd hj (by omega)⟩⟩
          case round =>
            obtain ⟨k, hk, rfl, HR⟩ := hrel
            by_cases hlt : k < l.length
            · have hp := List.getElem?_eq_getElem hlt
              generalize l[k] = p at hp
              have hmp := List.mem_of_getElem? hp
              obtain ⟨cb, co, e1, hcb, hcc⟩ := RdT.at encC_len (H0.out.below HR.out.1).rows hp
              have i0 := hcc 0 _ rfl
              obtain ⟨ao, cap, hcv⟩ := (H0.out.each p hmp).shape
              rw [Nat.mul_one, Nat.add_zero, hcv] at i0
              have hrow := (H0.out.below HR.out.1).each p hmp
              rw [hcv] at hrow
              have HROW := hidI hrow
              have HLE := hidI (HEACH.out p hmp)
              have HWF := hidI (H0.out.wf p hmp)
              have HP := hidI hp
              subst e1
              clear hcc hcv hcb hrow hmp hp
              go_wp2_with fail
              refine (contains_any HROW.out HLE.out HWF.out).mono ?_
              rintro e w2 ⟨rfl, hb2⟩
              have HB2 := hidI (HR.out.1.trans (hb2.mono HR.out.1.size))
              clear hb2 i0
              cases hal : p.2.all checkS with
              | false =>
                have HAL := hidI hal
                clear hal
                go_wp2_with fail
                go_ret
                refine ⟨?_, HB.out.trans (HB2.out.mono HB.out.size)⟩
                rw [show checkM mem l cs = 1 from by
                  unfold checkM
                  rw [if_neg HA.out, if_neg (show ¬ mem < 1 from by have := HM.out; omega), if_pos]
                  rw [List.all_eq_false]
                  exact ⟨p, List.mem_of_getElem? HP.out, by rw [HAL.out]; decide⟩]
                rfl
              | true =>
                have HAL := hidI hal
                clear hal
                go_wp2_with fail
                refine ⟨⟨k + 1, by omega, by go_num, ⟨HB2.out, fun j q hj hq => ?_⟩⟩, by simp [intOf]; omega⟩
                by_cases e : j = k
                · subst e
                  rw [HP.out] at hq
                  cases hq
                  exact HAL.out
                · exact HR.out.2 j q (by omega) hq
            · obtain rfl : k = l.length := by omega
              have HALL := hidI (show (l.all fun p => p.2.all checkS) = true from by
                rw [List.all_eq_true]
                intro p hp
                obtain ⟨j, hj⟩ := List.getElem?_of_mem hp
                exact HR.out.2 j p (List.getElem?_eq_some_iff.1 hj).1 hj)
              have hbr := HR.out.1
              have q0 := (World.cell?_of_block (hbr.block _ (World.block_lt_of_cell? _ _ d1))).trans d1
              have q2 := (World.cell?_of_block (hbr.block _ (World.block_lt_of_cell? _ _ d2))).trans d2
              have HBR := hidI (HB.out.trans (hbr.mono HB.out.size))
              have HC1 := hidI (Rd.below HC0.out hbr)
              clear d0 d1 d2 hbr HR H0 HC0 HB HKB
              go_wp2_with fail
              go_loopw [8, 55] (fun lv i w' => ∃ (k : Nat) (la : Int), k ≤ cs.length ∧ i = .int .i64 (k : Int) ∧ lv = .int .i64 la ∧ Hid (Below wr.heap.size wr w' ∧ cellsOk mem (-1) cs = cellsOk mem la (cs.drop k))) (fun lv i _ => ((cs.length : Int) - intOf i).toNat)
              case atStart => exact ⟨0, -1, by omega, rfl, rfl, ⟨Below.refl _ _, by simp⟩⟩
              case round =>
                obtain ⟨k, la, hk, rfl, rfl, HR⟩ := hrel
                by_cases hlt : k < cs.length
                · have hp := List.getElem?_eq_getElem hlt
                  have hdr := List.drop_eq_getElem_cons hlt
                  generalize cs[k] = c at hp hdr
                  obtain ⟨ca, cv⟩ := c
                  obtain ⟨cb, co, e1, hcb, hcc⟩ := RdT.at encCell_len (Rd.below HC1.out HR.out.1) hp
                  have i0 := hcc 0 _ rfl
                  have i1 := hcc 1 _ rfl
                  rw [Nat.add_zero] at i0
                  have hbr := HR.out.1
                  have m1 := (World.cell?_of_block (hbr.block _ (World.block_lt_of_cell? _ _ q0))).trans q0
                  have m2 := fun o => cell_allocU m1 o
                  have HD := hidI (show cellsOk mem (-1) cs = (decide (la < ca ∧ ca < mem) && cellsOk mem ca (cs.drop (k + 1))) from by rw [HR.out.2, hdr]; rfl)
                  have HB2 := hidI hbr
                  have hkl := HCL.out
                  subst e1
                  clear hcc hcb hp hdr hbr HR
                  by_cases b1 : ca ≤ la
                  · go_wp2_with fail
                    go_ret
                    refine ⟨?_, HBR.out.trans ((HB2.out.alloc HB2.out.size _).mono HBR.out.size)⟩
                    rw [show checkM mem l cs = 1 from by
                      unfold checkM
                      rw [if_neg HA.out, if_neg (show ¬ mem < 1 from by have := HM.out; omega), if_neg (by rw [HALL.out]; decide), if_pos]
                      rw [HD.out, decide_eq_false (by omega)]
                      rfl]
                    rfl
                  · by_cases b2 : mem ≤ ca
                    · go_wp2_with fail
                      go_ret
                      refine ⟨?_, HBR.out.trans ((HB2.out.alloc HB2.out.size _).mono HBR.out.size)⟩
                      rw [show checkM mem l cs = 1 from by
                        unfold checkM
                        rw [if_neg HA.out, if_neg (show ¬ mem < 1 from by have := HM.out; omega), if_neg (by rw [HALL.out]; decide), if_pos]
                        rw [HD.out, decide_eq_false (by omega)]
                        rfl]
                      rfl
                    · have b1' : la < ca := by omega
                      have b2' : ca < mem := by omega
                      have hkl2 : (k : Int) < 9000000000000 := by omega
                      clear hkl
                      go_wp2_with fail
                      refine ⟨⟨k + 1, ca, by omega, by go_num, rfl, ⟨HB2.out.alloc HB2.out.size _, by rw [HD.out, decide_eq_true ⟨b1', b2'⟩]; rfl⟩⟩, by simp [intOf]; omega⟩
                · obtain rfl : k = cs.length := by omega
                  go_wp2_with fail
                  go_ret
                  refine ⟨?_, HBR.out.trans (HR.out.1.mono HBR.out.size)⟩
                  rw [show checkM mem l cs = 0 from by
                    unfold checkM
                    rw [if_neg HA.out, if_neg (show ¬ mem < 1 from by have := HM.out; omega), if_neg (by rw [HALL.out]; decide), if_neg]
                    rw [HR.out.2]
                    simp [cellsOk]]
                  rfl
end Go.Proofs.YtopdcjimpdalpaaGreat

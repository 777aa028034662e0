/- The document's machine: Check. -/
import Derived.Test.YthmmbldhbdnfpaaGreatDoorRef17
import Derived.Test.YthmmbldhbdnfpaaGreatDoorMTsoN
namespace Go.Proofs.YthmmbldhbdnfpaaGreatDoor
open Go.RowKit
set_option linter.unusedVariables false
set_option linter.unusedSimpArgs false

variable {w w' : World}

theorem cells_len {mem : Int} : ∀ {cs : List (Int × Int)} {last : Int}, last < mem → cellsOk mem last cs = true → (cs.length : Int) ≤ mem - 1 - last
  | [], last, hl, _ => by simp; omega
  | c :: r, last, hl, h => by
    simp only [cellsOk, Bool.and_eq_true, decide_eq_true_eq] at h
    have := cells_len (cs := r) h.1.2 h.2
    simp only [List.length_cons]
    omega

set_option maxRecDepth 100000 in
set_option maxHeartbeats 2000000 in
theorem rcheckM_any {ca cca : Option Addr} {ccap ccca : Nat} {l : List (Value × List OpD)} {cs : List (Int × Int)} (h : CodeAt w (.slice ca l.length ccap) l) (hc : RdT encCell w 2 (.slice cca cs.length ccca) cs) (mem : Int) (hl : l.length ≤ 6000000000000) (hcl : cs.length ≤ 9000000000000) (hol : ∀ p ∈ l, p.2.length ≤ 9000000000000) :
    Calls Tryz.prog 34 #[.agg #[.slice ca l.length ccap, .int .i64 mem, .slice cca cs.length ccca]] w fun e w' => e = .returned (.int .i64 (checkM mem l cs)) ∧ Below w.heap.size w w' := by
  have H := hidI h
  have HC := hidI hc
  have HL := hidI hl
  have HCL := hidI hcl
  have HOL := hidI hol
  have hb0 : Below w.heap.size w (w.alloc (Obj.cells #[.slice ca l.length ccap, .int .i64 mem, .slice cca cs.length ccca] 25)) := (Below.refl _ _).alloc (Nat.le_refl _) _
  have hbox := block_new w (.cells #[.slice ca l.length ccap, .int .i64 mem, .slice cca cs.length ccca] 25)
  have H0 := hidI (h.below hb0)
  have HC0 := hidI (Rd.below hc hb0)
  have HB := hidI hb0
  have d0 : (w.alloc (Obj.cells #[.slice ca l.length ccap, .int .i64 mem, .slice cca cs.length ccca] 25)).cell? ⟨w.heap.size, 0, none⟩ = some (.slice ca l.length ccap) := cell_of_block hbox rfl
  have d1 : (w.alloc (Obj.cells #[.slice ca l.length ccap, .int .i64 mem, .slice cca cs.length ccca] 25)).cell? ⟨w.heap.size, 1, none⟩ = some (.int .i64 mem) := cell_of_block hbox rfl
  have d2 : (w.alloc (Obj.cells #[.slice ca l.length ccap, .int .i64 mem, .slice cca cs.length ccca] 25)).cell? ⟨w.heap.size, 2, none⟩ = some (.slice cca cs.length ccca) := cell_of_block hbox rfl
  clear h hc hl hcl hb0 hbox hol
  by_cases hA1 : 262144 < mem ∨ 4 < l.length
  · have HE := hidI (show checkM mem l cs = 3 from by unfold checkM; rw [if_pos (by omega)])
    by_cases a1 : mem > 262144
    · clear hA1
      go_enter Tryz.func34, Tryz.ntmps34
      go_wp2_with fail
      go_ret
      exact ⟨by rw [HE.out]; rfl, HB.out⟩
    · have a2 : (l.length : Int) > 4 := by omega
      clear hA1
      go_enter Tryz.func34, Tryz.ntmps34
      go_wp2_with fail
      go_ret
      exact ⟨by rw [HE.out]; rfl, HB.out⟩
  · have a1 : ¬ mem > 262144 := by omega
    have a2 : ¬ (l.length : Int) > 4 := by omega
    have h4 : l.length ≤ 4 := by omega
    have HA1 := hidI hA1
    clear hA1
    go_enter Tryz.func34, Tryz.ntmps34
    go_wp2_with fail
    generalize (w.alloc (Obj.cells #[.slice ca l.length ccap, .int .i64 mem, .slice cca cs.length ccca] 25)) = w0 at H0 HC0 HB d0 d1 d2 ⊢
    go_loopw [3, 4] (fun c i w' => ∃ k : Nat, k ≤ l.length ∧ i = .int .i64 (k : Int) ∧ c = .int .i64 (262144 - (countS (l.take k) : Int)) ∧ countS (l.take k) ≤ 262144 ∧ w' = w0) (fun c i _ => ((l.length : Int) - intOf i).toNat)
    case atStart => exact ⟨0, by omega, rfl, by simp [countS], by simp [countS], rfl⟩
    case round =>
      obtain ⟨k, hk, rfl, rfl, hcnt, hw⟩ := hrel
      obtain rfl := hw.symm
      by_cases hlt : k < l.length
      · have hp := List.getElem?_eq_getElem hlt
        generalize l[k] = p at hp
        obtain ⟨cb, co, rfl, hcb, hcc⟩ := RdT.at encC_len H0.out.rows hp
        have i0 := hcc 0 _ rfl
        obtain ⟨ao, cap, hcv⟩ := (H0.out.each p (List.mem_of_getElem? hp)).shape
        have hst := count_step hp
        rw [Nat.mul_one, Nat.add_zero, hcv] at i0
        have hpl := HOL.out p (List.mem_of_getElem? hp)
        have HST := hidI hst
        have HP := hidI hp
        clear hst hcc hcv hp
        by_cases hbig : 262144 - (countS (l.take k) : Int) - (p.2.length : Int) < 0
        · have HE := hidI (show checkM mem l cs = 3 from by
            have h1 : countS (l.take (k + 1)) ≤ countS l := by
              unfold countS
              conv => rhs; rw [← List.take_append_drop (k + 1) l, List.map_append, List.sum_append]
              omega
            have h2 := HST.out
            unfold checkM
            rw [if_pos (by omega)])
          go_wp2_with fail
          go_ret
          exact ⟨by rw [HE.out]; rfl, HB.out⟩
        · have h2 : countS (l.take (k + 1)) = countS (l.take k) + p.2.length := by have := HST.out; omega
          have HS2 := hidI h2
          clear h2
          go_wp2_with fail
          exact ⟨⟨k + 1, by omega, by go_num, by rw [HS2.out]; first | rfl | (congr 1; omega), by have := HS2.out; omega, by trivial⟩, by simp [intOf]; omega⟩
      · obtain rfl : k = l.length := by omega
        rw [List.take_length] at hcnt
        have HCNT := hidI hcnt
        have HNA := hidI (show ¬ (262144 < mem ∨ 4 < l.length ∨ 262144 < countS l) from by have := HA1.out; omega)
        have HEACH := hidI (count_each (l := l) hcnt)
        clear hcnt
        by_cases hm : mem < 1 ∨ mem < (cs.length : Int)
        · have HE := hidI (show checkM mem l cs = 1 from by
            unfold checkM
            rw [if_neg HNA.out]
            by_cases h1 : mem < 1
            · rw [if_pos h1]
            · rw [if_neg h1]
              split
              · rfl
              · rw [if_pos]
                rw [← Bool.not_eq_true]
                intro hc
                have := cells_len (by omega) hc
                omega)
          by_cases h1 : mem < 1
          · clear hm
            go_wp2_with fail
            go_ret
            exact ⟨by rw [HE.out]; rfl, HB.out⟩
          · have h2 : (cs.length : Int) > mem := by omega
            clear hm
            go_wp2_with fail
            go_ret
            exact ⟨by rw [HE.out]; rfl, HB.out⟩
        · have h1 : ¬ mem < 1 := by omega
          have h2 : ¬ (cs.length : Int) > mem := by omega
          have HM := hidI h1
          clear hm
          go_wp2_with fail
          have hcl := HCL.out
          clear a1 a2 h1 h2
          go_loopw [5] (fun i w' => ∃ k : Nat, k ≤ l.length ∧ i = .int .i64 (k : Int) ∧ Hid (Below w0.heap.size w0 w' ∧ ∀ j (p : Value × List OpD), j < k → l[j]? = some p → p.2.all checkS = true)) (fun i _ => ((l.length : Int) - intOf i).toNat)
          case atStart => exact ⟨0, by omega, rfl, ⟨Below.refl _ _, fun j p hj => absurd hj (by omega)⟩⟩
          case round =>
            obtain ⟨k, hk, rfl, HR⟩ := hrel
            have e0 : wr.cell? ⟨w.heap.size, 0, none⟩ = some (.slice ca l.length ccap) := cell_later HR.out.1 d0
            by_cases hlt : k < l.length
            · have hp := List.getElem?_eq_getElem hlt
              generalize l[k] = p at hp
              have hmp := List.mem_of_getElem? hp
              obtain ⟨ao, cap, hcv⟩ := (H0.out.each p hmp).shape
              have hrow := H0.out.each p hmp
              rw [hcv] at hrow
              obtain ⟨cb, co, e1, hcb, hcc⟩ := RdT.at encC_len H0.out.rows hp
              have i0 := hcc 0 _ rfl
              rw [Nat.mul_one, Nat.add_zero, hcv] at i0
              subst e1
              have HI0 := hidI i0
              have HROW := hidI hrow
              have hple := HEACH.out p hmp
              have HWF := hidI (H0.out.wf p hmp)
              have HP := hidI hp
              clear hcc hcv hcb hrow hmp hp i0
              go_wp2_with fail
              go_loopw [6] (fun i w' => ∃ m : Nat, m ≤ p.2.length ∧ i = .int .i64 (m : Int) ∧ Hid (Below w0.heap.size w0 w' ∧ ∀ o ∈ p.2.take m, checkS o = true)) (fun i _ => ((p.2.length : Int) - intOf i).toNat)
              case atStart => exact ⟨0, by omega, rfl, ⟨HR.out.1, fun o ho => by simp at ho⟩⟩
              case round =>
                obtain ⟨m, hm, rfl, HS⟩ := hrel
                obtain ⟨wi, rfl⟩ : ∃ x, x = wr := ⟨_, rfl⟩
                have f0 := cell_later HS.out.1 d0
                have fi := cell_later HS.out.1 HI0.out
                by_cases hlm : m < p.2.length
                · obtain ⟨o, ho⟩ := some_at hlm
                  obtain ⟨ob, oo, e1, hob, hoc⟩ := RdT.at encOp_len (Rd.below HROW.out HS.out.1) ho
                  subst e1
                  have g0 := hoc 0 _ rfl
                  have g1 := hoc 1 _ rfl
                  have g2 := hoc 2 _ rfl
                  have g3 := hoc 3 _ rfl
                  have g4 := hoc 4 _ rfl
                  have g5 := hoc 5 _ rfl
                  simp only [Nat.add_zero] at g0
                  have HOO := hidI ho
                  clear hoc hob ho
                  go_wp2_with fail
                  refine (rcheck_any _ o (HWF.out o (List.mem_of_getElem? HOO.out))).mono ?_
                  rintro e w2 ⟨rfl, hb2⟩
                  have HB2 := hidI (bnext HS.out.1 hb2)
                  clear hb2
                  cases hck : checkS o with
                  | false =>
                    have HCK := hidI hck
                    clear hck
                    simp only [codeV]
                    go_wp2_with fail
                    go_ret
                    refine ⟨?_, bnext HB.out HB2.out⟩
                    rw [show checkM mem l cs = 1 from by
                      unfold checkM
                      rw [if_neg HNA.out, if_neg (show ¬ mem < 1 from by have := HM.out; omega), if_pos]
                      rw [List.all_eq_false]
                      exact ⟨p, List.mem_of_getElem? HP.out, by
                        rw [Bool.not_eq_true, List.all_eq_false]
                        exact ⟨o, List.mem_of_getElem? HOO.out, by rw [HCK.out]; decide⟩⟩]
                    rfl
                  | true =>
                    have HCK := hidI hck
                    clear hck
                    simp only [codeV]
                    go_wp2_with fail
                    refine ⟨⟨m + 1, by omega, by go_num, ⟨HB2.out, fun q hq => ?_⟩⟩, by simp [intOf]; omega⟩
                    rw [take_snoc HOO.out] at hq
                    rcases List.mem_append.1 hq with hq | hq
                    · exact HS.out.2 q hq
                    · rw [List.mem_singleton.1 hq]; exact HCK.out
                · obtain rfl : m = p.2.length := by omega
                  go_wp2_with fail
                  refine ⟨⟨k + 1, by omega, by go_num, ⟨HS.out.1, fun j q hj hq => ?_⟩⟩, by simp [intOf]; omega⟩
                  by_cases e : j = k
                  · subst e
                    rw [HP.out] at hq
                    cases hq
                    rw [List.all_eq_true]
                    intro o ho
                    exact HS.out.2 o (by rw [List.take_length]; exact ho)
                  · exact HR.out.2 j q (by omega) hq
            · obtain rfl : k = l.length := by omega
              have HALL := hidI (show (l.all fun p => p.2.all checkS) = true from by
                rw [List.all_eq_true]
                intro p hp
                obtain ⟨j, hj⟩ := List.getElem?_of_mem hp
                exact HR.out.2 j p (List.getElem?_eq_some_iff.1 hj).1 hj)
              have HB1 := hidI HR.out.1
              have q1 := cell_later HB1.out d1
              have q2 := cell_later HB1.out d2
              have HC1 := hidI (Rd.below HC0.out HB1.out)
              obtain ⟨w1, rfl⟩ : ∃ x, x = wr := ⟨_, rfl⟩
              clear d0 d1 d2 HR
              go_wp2_with fail
              go_loopw [7, 8] (fun lv i w' => ∃ (k : Nat) (la : Int), k ≤ cs.length ∧ i = .int .i64 (k : Int) ∧ lv = .int .i64 la ∧ Hid (Below w1.heap.size w1 w' ∧ cellsOk mem (-1) cs = cellsOk mem la (cs.drop k))) (fun lv i _ => ((cs.length : Int) - intOf i).toNat)
              case atStart => exact ⟨0, -1, by omega, rfl, rfl, ⟨Below.refl _ _, by simp⟩⟩
              case round =>
                obtain ⟨k, la, hk, rfl, rfl, HR⟩ := hrel
                have m1 := cell_later HR.out.1 q1
                have m2 := cell_later HR.out.1 q2
                by_cases hlt : k < cs.length
                · have hp := List.getElem?_eq_getElem hlt
                  have hdr := List.drop_eq_getElem_cons hlt
                  generalize cs[k] = c at hp hdr
                  obtain ⟨cat, cv⟩ := c
                  obtain ⟨cb, co, e1, hcb, hcc⟩ := RdT.at encCell_len (Rd.below HC1.out HR.out.1) hp
                  have i0 := hcc 0 _ rfl
                  rw [Nat.add_zero] at i0
                  have HD := hidI (show cellsOk mem (-1) cs = (decide (la < cat ∧ cat < mem) && cellsOk mem cat (cs.drop (k + 1))) from by rw [HR.out.2, hdr]; rfl)
                  have HB2 := hidI HR.out.1
                  subst e1
                  clear hcc hcb hp hdr HR
                  by_cases b1 : cat ≤ la
                  · go_wp2_with fail
                    go_quiet (fail)
                    go_wp2_with fail
                    go_ret
                    refine ⟨?_, below_drewN (bnext HB.out (bnext HB1.out HB2.out)) _⟩
                    rw [show checkM mem l cs = 1 from by
                      unfold checkM
                      rw [if_neg HNA.out, if_neg (show ¬ mem < 1 from by have := HM.out; omega), if_neg (by rw [HALL.out]; decide), if_pos]
                      rw [HD.out, decide_eq_false (by omega)]
                      rfl]
                    rfl
                  · by_cases b2 : cat ≥ mem
                    · go_wp2_with fail
                      go_quiet (fail)
                      go_wp2_with fail
                      go_ret
                      refine ⟨?_, below_drewN (bnext HB.out (bnext HB1.out HB2.out)) _⟩
                      rw [show checkM mem l cs = 1 from by
                        unfold checkM
                        rw [if_neg HNA.out, if_neg (show ¬ mem < 1 from by have := HM.out; omega), if_neg (by rw [HALL.out]; decide), if_pos]
                        rw [HD.out, decide_eq_false (by omega)]
                        rfl]
                      rfl
                    · have b1' : la < cat := by omega
                      have b2' : cat < mem := by omega
                      have HBB := hidI (And.intro b1' b2')
                      clear b1' b2'
                      go_wp2_with fail
                      go_quiet (fail)
                      go_wp2_with fail
                      refine ⟨⟨k + 1, cat, by omega, by go_num, rfl, ⟨below_drewN HB2.out _, by rw [HD.out, decide_eq_true HBB.out]; rfl⟩⟩, by simp [intOf]; omega⟩
                · obtain rfl : k = cs.length := by omega
                  go_wp2_with fail
                  go_ret
                  refine ⟨?_, bnext HB.out (bnext HB1.out HR.out.1)⟩
                  rw [show checkM mem l cs = 0 from by
                    unfold checkM
                    rw [if_neg HNA.out, if_neg (show ¬ mem < 1 from by have := HM.out; omega), if_neg (by rw [HALL.out]; decide), if_neg]
                    rw [HR.out.2]
                    simp [cellsOk]]
                  rfl
end Go.Proofs.YthmmbldhbdnfpaaGreatDoor

/- Package play: Run. -/
import Derived.Test.YtopdcjimpdalpaaGreatPlayD
import Derived.Test.YtopdcjimpdalpaaGreatPlayS
import Derived.Test.YtopdcjimpdalpaaGreatPlayC
import Derived.Deep.RegionHeld3
namespace Go.Proofs.YtopdcjimpdalpaaGreat
open Go.RowKit
set_option linter.unusedVariables false
set_option linter.unusedSimpArgs false

variable {w w' : World} {base b : Nat}

set_option maxRecDepth 100000 in
set_option maxHeartbeats 1000000 in
theorem run_yes {ca cca sa : Option Addr} {ccap ccca scap : Nat} {l : List (Value × List OpD)} {cs : List (Int × Int)} {sc : List PickD} (h : CodeAt w (.slice ca l.length ccap) l) (hc : RdT encCell w 2 (.slice cca cs.length ccca) cs) (mem : Int) (hl : l.length ≤ 6000000000000) (hcl : cs.length ≤ 9000000000000) (hk : checkM mem l cs = 0)
    (hs : RdT encPk w 3 (.slice sa sc.length scap) sc) (hm : sc.length ≤ 9000000000000) (hn : ∀ p ∈ sc, -9223372036854775808 ≤ p.n ∧ 0 ≤ p.kind) (he : (lengthS sc).2 = 0) :
    Calls Tryz.prog 29 #[.agg #[.slice ca l.length ccap, .int .i64 mem, .slice cca cs.length ccca], .slice sa sc.length scap] w (RunTrace (doActs (newM mem (l.map (·.2)) cs, 0) (actsS sc)) w) := by
  have H := hidI h
  have HC := hidI hc
  have HS := hidI hs
  have HN := hidI hn
  have HL := hidI hl
  have HCL := hidI hcl
  have HM := hidI hm
  have HK := hidI hk
  clear h hc hs hn hl hcl hm hk
  have o1 := fun w a => run_store Tryz.prog w a .nilFunc .plain rfl
  have o2 := fun w a f c d => run_store Tryz.prog w a (.func f c d) .plain rfl
  have hmf : ∀ (fn : Fn) (first cap : Array Value) (w : World), (Instr.makeFunc fn first cap).run Tryz.prog w = .ok (.func fn first cap) w := fun _ _ _ _ => rfl
  go_enter Tryz.func29, Tryz.ntmps29
  have hb0 : Below w.heap.size w ((w.alloc (.cells #[.slice ca l.length ccap, .int .i64 mem, .slice cca cs.length ccca] 30)).alloc (.cells #[.slice none 0 0, .slice none 0 0, .int .i64 0] 66)) := ((Below.refl w.heap.size w).alloc (Nat.le_refl _) _).alloc (by simp) _
  have htr := block_new2 w (.cells #[.slice ca l.length ccap, .int .i64 mem, .slice cca cs.length ccca] 30) (.cells #[.slice none 0 0, .slice none 0 0, .int .i64 0] 66)
  have H0 := hidI (H.out.below hb0)
  have HC0 := hidI (Rd.below HC.out hb0)
  have HB0 := hidI hb0
  have HTR := hidI htr
  clear hb0 htr
  go_wp2_with fail
  refine (new_yes H0.out HC0.out mem HL.out HCL.out HK.out).mono ?_
  rintro e w1 ⟨b, own, xs, mv, tv, rfl, hma, hb⟩
  have HMA := hidI hma
  have HB := hidI (bnextAA (Below.refl w.heap.size w) hb)
  have HT1 := hidI (blk hb HTR.out)
  clear hma hb HTR
  go_wp2_with fail
  have hbx : Below w1.heap.size w1 (w1.alloc (.cells #[.pointer (some ⟨b, 0, none⟩)] 144)) := (Below.refl _ _).alloc (Nat.le_refl _) _
  have HNX := hidI (show w.heap.size + 2 ≤ w1.heap.size from by have h9 := (MOff.of_live (MLive.of HMA.out (newM_ok H0.out HK.out))).base_le; simpa using h9)
  have HMX := hidI (((MOff.of_live (show MLive w1 (w.heap.size + 2) b _ 0 from by have h9 := MLive.of HMA.out (newM_ok H0.out HK.out); simpa using h9)).addOld (q := w.heap.size + 1) (by omega)).alloc (.cells #[.pointer (some ⟨b, 0, none⟩)] 144))
  have HBX := hidI (bnext HB.out hbx)
  have HTX := hidI (blk hbx HT1.out)
  have HX1 := hidI (block_new w1 (.cells #[.pointer (some ⟨b, 0, none⟩)] 144))
  clear hbx HT1 HMA HB
  refine (length_any (Rd.below HS.out HBX.out) HM.out HN.out).mono ?_
  rintro e w2 ⟨rfl, hb⟩
  rw [he]
  have HB2 := hidI (bnext HBX.out hb)
  have HT2 := hidI (blk hb HTX.out)
  have HX2 := hidI (blk hb HX1.out)
  have HMO := hidI (HMX.out.below hb)
  clear hb HTX HX1 HMX HBX
  have hrun : RunAt ((w2.alloc (.cells #[.int .i64 0] 3)).alloc (.cells #[.func (.func 62) #[] #[.pointer (some ⟨w1.heap.size, 0, none⟩), .pointer (some ⟨w2.heap.size, 0, none⟩)]] 147)) (w.heap.size + 2) b w1.heap.size w2.heap.size (w2.heap.size + 1) (newM mem (l.map (·.2)) cs) 0 0 [w2.heap.size + 1, w2.heap.size, w1.heap.size, w.heap.size + 1] := by
    have h0 := HMO.out
    have h1 := (h0.alloc (.cells #[.int .i64 0] 3)).alloc (.cells #[.func (.func 62) #[] #[.pointer (some ⟨w1.heap.size, 0, none⟩), .pointer (some ⟨w2.heap.size, 0, none⟩)]] 147)
    rw [World.size_alloc] at h1
    have hl := lt_of_block HX2.out
    have hl2 := HB2.out.size
    have hl3 := h0.base_le
    exact ⟨h1, block_alloc (block_alloc HX2.out), block_alloc (block_new _ _), block_new2 _ _ _, by simp, by simp, by simp, by omega, by omega, by omega⟩
  have HRUN := hidI hrun
  have HT3 := hidI (block_alloc (o := .cells #[.func (.func 62) #[] #[.pointer (some ⟨w1.heap.size, 0, none⟩), .pointer (some ⟨w2.heap.size, 0, none⟩)]] 147) (block_alloc (o := .cells #[.int .i64 0] 3) HT2.out))
  have HB3 := hidI ((HB2.out.alloc HB2.out.size (.cells #[.int .i64 0] 3)).alloc (by have := HB2.out.size; simp; omega) (.cells #[.func (.func 62) #[] #[.pointer (some ⟨w1.heap.size, 0, none⟩), .pointer (some ⟨w2.heap.size, 0, none⟩)]] 147))
  have HLN := hidI (lengthS_ok he)
  clear hrun he
  go_wp2_with fail
  go_loopw [36] (fun i w' => ∃ k : Nat, k ≤ sc.length ∧ i = .int .i64 (k : Int) ∧ Hid (∃ N' : Nat, (N' : Int) ≤ total (sc.take k) ∧ 0 ≤ (doActs (newM mem (l.map (·.2)) cs, 0) (actsS (sc.take k))).2 ∧ (doActs (newM mem (l.map (·.2)) cs, 0) (actsS (sc.take k))).2 ≤ N' ∧
    RunAt w' (w.heap.size + 2) b w1.heap.size w2.heap.size (w2.heap.size + 1) (doActs (newM mem (l.map (·.2)) cs, 0) (actsS (sc.take k))).1 (doActs (newM mem (l.map (·.2)) cs, 0) (actsS (sc.take k))).2 N' [w2.heap.size + 1, w2.heap.size, w1.heap.size, w.heap.size + 1]) ∧
    Hid (w'.heap[w.heap.size + 1]? = some (.cells #[.slice none 0 0, .slice none 0 0, .int .i64 0] 66 (0, 0))) ∧ Hid (Below w.heap.size w w')) (fun i _ => ((sc.length : Int) - intOf i).toNat)
  case atStart => exact ⟨0, by omega, rfl, ⟨0, by simp [total], by simp [actsS, doActs], by simp [actsS, doActs], HRUN.out⟩, HT3, HB3⟩
  case round =>
    clear HT3 HB3 HRUN HT2 HB2 HX2 HMO
    obtain ⟨k, hk, rfl, HR, HT, HB⟩ := hrel
    by_cases hlt : k < sc.length
    · obtain ⟨x, hx⟩ := some_at hlt
      obtain ⟨b1, o1', rfl, hs1, hc1⟩ := RdT.at encPk_len (Rd.below HS.out HB.out) hx
      have x0 := hc1 0 _ rfl
      have x1 := hc1 1 _ rfl
      have x2 := hc1 2 _ rfl
      simp only [Nat.add_zero] at x0
      obtain ⟨kk, th, nn⟩ := x
      simp only at x0 x1 x2
      have hbx : pbad ⟨kk, th, nn⟩ = false := by
        have := List.any_eq_false.1 HLN.out.2.1 _ (List.mem_of_getElem? hx)
        simpa using this
      have hn0 : 0 ≤ nn := by unfold pbad at hbx; simp at hbx; omega
      have hp0 := plen_ge hbx
      have htk : total (sc.take (k + 1)) ≤ 1048576 := by
        have h1 := total_app (sc.take (k + 1)) (sc.drop (k + 1))
        rw [List.take_append_drop] at h1
        have : 0 ≤ total (sc.drop (k + 1)) := total_ge (by
          refine List.any_eq_false.2 fun y hy => ?_
          exact List.any_eq_false.1 HLN.out.2.1 y (List.mem_of_mem_drop hy))
        have := HLN.out.2.2.1
        omega
      have ht0 : 0 ≤ total (sc.take k) := total_ge (by
        refine List.any_eq_false.2 fun y hy => ?_
        exact List.any_eq_false.1 HLN.out.2.1 y (List.mem_of_mem_take hy))
      rw [take_snoc hx, total_snoc] at htk
      have hpl : nn ≤ plen ⟨kk, th, nn⟩ := by
        unfold plen at htk ⊢
        simp only at htk ⊢
        split at htk <;> split <;> omega
      obtain ⟨N0, hN0, hq0, hq1, hR⟩ := HR.out
      obtain ⟨S, hS⟩ : ∃ S, S = doActs (newM mem (l.map (·.2)) cs, 0) (actsS (sc.take k)) := ⟨_, rfl⟩
      rw [← hS] at hq0 hq1 hR
      have HSEQ := hidI hS.symm
      have HNN := hidI hN0
      have HPL := hidI hpl
      have HNL : Hid (nn ≤ 1048576 ∧ total (sc.take k) ≤ 1048576) := hidI ⟨by omega, by omega⟩
      have HX := hidI hx
      have hnb : nn ≤ 1048576 := HNL.out.1
      have hkb : sc.length ≤ 65536 := HLN.out.1
      obtain ⟨w3, rfl⟩ : ∃ q, q = wr := ⟨_, rfl⟩
      clear hc1 hx hbx hp0 htk ht0 hpl hN0 hS HR
      by_cases hk1 : kk = 1
      · subst hk1
        go_wp2_with fail
        have hpb := block_new w3 (.cells (encPk ⟨1, th, nn⟩).toArray 42)
        have HPB := hidI hpb
        clear hpb
        have HA0 := hidI (hR.addBox (.cells (encPk ⟨1, th, nn⟩).toArray 42))
        have HTa := hidI (block_alloc (o := .cells (encPk ⟨1, th, nn⟩).toArray 42) HT.out)
        have HBa := hidI (HB.out.alloc HB.out.size (.cells (encPk ⟨1, th, nn⟩).toArray 42))
        have hne : w3.heap.size ≠ w2.heap.size := by have := lt_of_block hR.s; omega
        have hne2 : w.heap.size + 1 ≠ w2.heap.size := by have := hR.lo; omega
        have HNE := hidI hne
        have HNE2 := hidI hne2
        have HSN : Hid (0 ≤ S.2 ∧ S.2 ≤ N0) := hidI ⟨hq0, hq1⟩
        clear hR hq0 hq1 hne hne2 HT HB
        go_loopw [51] (fun i w' => ∃ j : Nat, (j : Int) ≤ nn ∧ i = .int .i64 (j : Int) ∧ Hid (∃ N' : Nat, (N' : Int) ≤ N0 + j ∧ 0 ≤ (doActs S (timesS ⟨1, th, nn⟩ j)).2 ∧ (doActs S (timesS ⟨1, th, nn⟩ j)).2 ≤ N' ∧
          RunAt w' (w.heap.size + 2) b w1.heap.size w2.heap.size (w2.heap.size + 1) (doActs S (timesS ⟨1, th, nn⟩ j)).1 (doActs S (timesS ⟨1, th, nn⟩ j)).2 N' [w3.heap.size, w2.heap.size + 1, w2.heap.size, w1.heap.size, w.heap.size + 1]) ∧
          Hid (w'.heap[w3.heap.size]? = some (.cells (encPk ⟨1, th, nn⟩).toArray 42 (0, 0))) ∧ Hid (w'.heap[w.heap.size + 1]? = some (.cells #[.slice none 0 0, .slice none 0 0, .int .i64 0] 66 (0, 0))) ∧ Hid (Below w.heap.size w w')) (fun i _ => nn.toNat - (intOf i).toNat)
        case atStart => exact ⟨0, hn0, rfl, ⟨N0, by simp, by simpa [timesS, doActs] using HSN.out.1, by simpa [timesS, doActs] using HSN.out.2, HA0.out⟩, HPB, HTa, HBa⟩
        case round =>
          clear HPB HTa HBa HA0
          obtain ⟨j, hj, rfl, HR, HPB, HT, HB⟩ := hrel
          by_cases hlt2 : (j : Int) < nn
          · obtain ⟨N1, hN1, h0, h1, hR⟩ := HR.out
            have HRR := hidI hR
            have H0 := hidI h0
            have H1 := hidI h1
            have HN1 := hidI hN1
            clear HR hR h0 h1 hN1
            go_wp2_with fail
            refine (run3 HRR.out HPB.out rfl).mono ?_
            rintro e w4 ⟨rfl, hr4, hst, hb4⟩
            have hsn : doActs S (timesS ⟨1, th, nn⟩ (j + 1)) = doActs (doActs S (timesS ⟨1, th, nn⟩ j)) (onceS ⟨1, th, nn⟩) := by rw [timesS, doActs_app]
            rw [show ((doActs S (timesS ⟨1, th, nn⟩ j)).1, (doActs S (timesS ⟨1, th, nn⟩ j)).2) = doActs S (timesS ⟨1, th, nn⟩ j) from rfl, ← hsn] at hr4
            have hstp := once_steps (doActs S (timesS ⟨1, th, nn⟩ j)) ⟨1, th, nn⟩
            rw [← hsn] at hstp
            have HR4 := hidI hr4
            have HST := hidI hstp
            have HPB4 := hidI ((hst w3.heap.size (by simp) HNE.out).trans HPB.out)
            have HT4 := hidI ((hst (w.heap.size + 1) (by simp) HNE2.out).trans HT.out)
            have HB4 := hidI (HB.out.trans (hb4.mono (by omega)))
            clear hr4 hst hb4 hsn hstp
            go_wp2_with fail
            exact ⟨⟨j + 1, by omega, by go_num, ⟨N1 + 1, by have := HN1.out; omega, by have := H0.out; have := HST.out; omega, by have := H1.out; have := HST.out; omega, HR4.out.more⟩, HPB4, HT4, HB4⟩, by simp [intOf]; omega⟩
          · have hjn : nn.toNat = j := by omega
            go_wp2_with fail
            obtain ⟨N1, hN1, h0, h1, hR⟩ := HR.out
            have hfin : doActs (newM mem (l.map (·.2)) cs, 0) (actsS (sc.take (k + 1))) = doActs S (timesS ⟨1, th, nn⟩ j) := by
              rw [take_snoc HX.out, actsS_snoc, doActs_app, HSEQ.out]
              simp only [pickS]
              rw [hjn]
            exact ⟨⟨k + 1, by omega, by go_num, ⟨N1, by rw [take_snoc HX.out, total_snoc]; have := HNN.out; have := HPL.out; omega, by rw [hfin]; exact h0, by rw [hfin]; exact h1, by rw [hfin]; exact hR.less (fun q hq => by simp at hq; simp [hq]) (by simp) (by simp) (by simp)⟩, HT, HB⟩, by simp [intOf]; omega⟩
      · have hkb1 : (kk == 1) = false := by simpa using hk1
        by_cases hk2 : kk = 2
        · subst hk2
          go_wp2_with fail
          have hpb := block_new w3 (.cells (encPk ⟨2, th, nn⟩).toArray 42)
          have HPB := hidI hpb
          clear hpb
          have HA0 := hidI (hR.addBox (.cells (encPk ⟨2, th, nn⟩).toArray 42))
          have HTa := hidI (block_alloc (o := .cells (encPk ⟨2, th, nn⟩).toArray 42) HT.out)
          have HBa := hidI (HB.out.alloc HB.out.size (.cells (encPk ⟨2, th, nn⟩).toArray 42))
          have hne : w3.heap.size ≠ w2.heap.size := by have := lt_of_block hR.s; omega
          have hne2 : w.heap.size + 1 ≠ w2.heap.size := by have := hR.lo; omega
          have HNE := hidI hne
          have HNE2 := hidI hne2
          have HSN : Hid (0 ≤ S.2 ∧ S.2 ≤ N0) := hidI ⟨hq0, hq1⟩
          clear hR hq0 hq1 hne hne2 HT HB
          go_loopw [51] (fun i w' => ∃ j : Nat, (j : Int) ≤ nn ∧ i = .int .i64 (j : Int) ∧ Hid (∃ N' : Nat, (N' : Int) ≤ N0 + j ∧ 0 ≤ (doActs S (timesS ⟨2, th, nn⟩ j)).2 ∧ (doActs S (timesS ⟨2, th, nn⟩ j)).2 ≤ N' ∧
            RunAt w' (w.heap.size + 2) b w1.heap.size w2.heap.size (w2.heap.size + 1) (doActs S (timesS ⟨2, th, nn⟩ j)).1 (doActs S (timesS ⟨2, th, nn⟩ j)).2 N' [w3.heap.size, w2.heap.size + 1, w2.heap.size, w1.heap.size, w.heap.size + 1]) ∧
            Hid (w'.heap[w3.heap.size]? = some (.cells (encPk ⟨2, th, nn⟩).toArray 42 (0, 0))) ∧ Hid (w'.heap[w.heap.size + 1]? = some (.cells #[.slice none 0 0, .slice none 0 0, .int .i64 0] 66 (0, 0))) ∧ Hid (Below w.heap.size w w')) (fun i _ => nn.toNat - (intOf i).toNat)
          case atStart => exact ⟨0, hn0, rfl, ⟨N0, by simp, by simpa [timesS, doActs] using HSN.out.1, by simpa [timesS, doActs] using HSN.out.2, HA0.out⟩, HPB, HTa, HBa⟩
          case round =>
            clear HPB HTa HBa HA0
            obtain ⟨j, hj, rfl, HR, HPB, HT, HB⟩ := hrel
            by_cases hlt2 : (j : Int) < nn
            · obtain ⟨N1, hN1, h0, h1, hR⟩ := HR.out
              have HRR := hidI hR
              have H0 := hidI h0
              have H1 := hidI h1
              have HN1 := hidI hN1
              clear HR hR h0 h1 hN1
              go_wp2_with fail
              refine (run4 HRR.out HPB.out (by simp) HNE.out (by have := HN1.out; have := HNN.out; have := HNL.out; omega) ⟨H0.out, by have := H1.out; have := HN1.out; have := HNN.out; have := HNL.out; omega⟩ rfl).mono ?_
              rintro e w4 ⟨rfl, hr4, hst, hb4⟩
              have hsn : doActs S (timesS ⟨2, th, nn⟩ (j + 1)) = doActs (doActs S (timesS ⟨2, th, nn⟩ j)) (onceS ⟨2, th, nn⟩) := by rw [timesS, doActs_app]
              rw [show ((doActs S (timesS ⟨2, th, nn⟩ j)).1, (doActs S (timesS ⟨2, th, nn⟩ j)).2) = doActs S (timesS ⟨2, th, nn⟩ j) from rfl, ← hsn] at hr4
              have hstp := once_steps (doActs S (timesS ⟨2, th, nn⟩ j)) ⟨2, th, nn⟩
              rw [← hsn] at hstp
              have HR4 := hidI hr4
              have HST := hidI hstp
              have HPB4 := hidI ((hst w3.heap.size (by simp) HNE.out).trans HPB.out)
              have HT4 := hidI ((hst (w.heap.size + 1) (by simp) HNE2.out).trans HT.out)
              have HB4 := hidI (HB.out.trans (hb4.mono (by omega)))
              clear hr4 hst hb4 hsn hstp
              go_wp2_with fail
              exact ⟨⟨j + 1, by omega, by go_num, ⟨N1 + 1, by have := HN1.out; omega, by have := H0.out; have := HST.out; omega, by have := H1.out; have := HST.out; omega, HR4.out⟩, HPB4, HT4, HB4⟩, by simp [intOf]; omega⟩
            · have hjn : nn.toNat = j := by omega
              go_wp2_with fail
              obtain ⟨N1, hN1, h0, h1, hR⟩ := HR.out
              have hfin : doActs (newM mem (l.map (·.2)) cs, 0) (actsS (sc.take (k + 1))) = doActs S (timesS ⟨2, th, nn⟩ j) := by
                rw [take_snoc HX.out, actsS_snoc, doActs_app, HSEQ.out]
                simp only [pickS]
                rw [hjn]
              exact ⟨⟨k + 1, by omega, by go_num, ⟨N1, by rw [take_snoc HX.out, total_snoc]; have := HNN.out; have := HPL.out; omega, by rw [hfin]; exact h0, by rw [hfin]; exact h1, by rw [hfin]; exact hR.less (fun q hq => by simp at hq; simp [hq]) (by simp) (by simp) (by simp)⟩, HT, HB⟩, by simp [intOf]; omega⟩
        · have hkb2 : (kk == 2) = false := by simpa using hk2
          go_wp2_with fail
          have hpb := block_new w3 (.cells (encPk ⟨kk, th, nn⟩).toArray 42)
          have HPB := hidI hpb
          clear hpb
          have HA0 := hidI (hR.addBox (.cells (encPk ⟨kk, th, nn⟩).toArray 42))
          have HTa := hidI (block_alloc (o := .cells (encPk ⟨kk, th, nn⟩).toArray 42) HT.out)
          have HBa := hidI (HB.out.alloc HB.out.size (.cells (encPk ⟨kk, th, nn⟩).toArray 42))
          have hne : w3.heap.size ≠ w2.heap.size := by have := lt_of_block hR.s; omega
          have hne2 : w.heap.size + 1 ≠ w2.heap.size := by have := hR.lo; omega
          have HNE := hidI hne
          have HNE2 := hidI hne2
          have HSN : Hid (0 ≤ S.2 ∧ S.2 ≤ N0) := hidI ⟨hq0, hq1⟩
          clear hR hq0 hq1 hne hne2 HT HB
          go_loopw [51] (fun i w' => ∃ j : Nat, (j : Int) ≤ nn ∧ i = .int .i64 (j : Int) ∧ Hid (∃ N' : Nat, (N' : Int) ≤ N0 + j ∧ 0 ≤ (doActs S (timesS ⟨kk, th, nn⟩ j)).2 ∧ (doActs S (timesS ⟨kk, th, nn⟩ j)).2 ≤ N' ∧
            RunAt w' (w.heap.size + 2) b w1.heap.size w2.heap.size (w2.heap.size + 1) (doActs S (timesS ⟨kk, th, nn⟩ j)).1 (doActs S (timesS ⟨kk, th, nn⟩ j)).2 N' [w3.heap.size, w2.heap.size + 1, w2.heap.size, w1.heap.size, w.heap.size + 1]) ∧
            Hid (w'.heap[w3.heap.size]? = some (.cells (encPk ⟨kk, th, nn⟩).toArray 42 (0, 0))) ∧ Hid (w'.heap[w.heap.size + 1]? = some (.cells #[.slice none 0 0, .slice none 0 0, .int .i64 0] 66 (0, 0))) ∧ Hid (Below w.heap.size w w')) (fun i _ => nn.toNat - (intOf i).toNat)
          case atStart => exact ⟨0, hn0, rfl, ⟨N0, by simp, by simpa [timesS, doActs] using HSN.out.1, by simpa [timesS, doActs] using HSN.out.2, HA0.out⟩, HPB, HTa, HBa⟩
          case round =>
            clear HPB HTa HBa HA0
            obtain ⟨j, hj, rfl, HR, HPB, HT, HB⟩ := hrel
            by_cases hlt2 : (j : Int) < nn
            · obtain ⟨N1, hN1, h0, h1, hR⟩ := HR.out
              have HRR := hidI hR
              have H0 := hidI h0
              have H1 := hidI h1
              have HN1 := hidI hN1
              clear HR hR h0 h1 hN1
              go_wp2_with fail
              refine (run2 HRR.out HPB.out (by have := HN1.out; have := HNN.out; have := HNL.out; omega) ⟨H0.out, by have := H1.out; have := HN1.out; have := HNN.out; have := HNL.out; omega⟩ ⟨hk1, hk2⟩).mono ?_
              rintro e w4 ⟨rfl, hr4, hst, hb4⟩
              have hsn : doActs S (timesS ⟨kk, th, nn⟩ (j + 1)) = doActs (doActs S (timesS ⟨kk, th, nn⟩ j)) (onceS ⟨kk, th, nn⟩) := by rw [timesS, doActs_app]
              rw [show ((doActs S (timesS ⟨kk, th, nn⟩ j)).1, (doActs S (timesS ⟨kk, th, nn⟩ j)).2) = doActs S (timesS ⟨kk, th, nn⟩ j) from rfl, ← hsn] at hr4
              have hstp := once_steps (doActs S (timesS ⟨kk, th, nn⟩ j)) ⟨kk, th, nn⟩
              rw [← hsn] at hstp
              have HR4 := hidI hr4
              have HST := hidI hstp
              have HPB4 := hidI ((hst w3.heap.size (by simp) HNE.out).trans HPB.out)
              have HT4 := hidI ((hst (w.heap.size + 1) (by simp) HNE2.out).trans HT.out)
              have HB4 := hidI (HB.out.trans (hb4.mono (by omega)))
              clear hr4 hst hb4 hsn hstp
              go_wp2_with fail
              exact ⟨⟨j + 1, by omega, by go_num, ⟨N1 + 1, by have := HN1.out; omega, by have := H0.out; have := HST.out; omega, by have := H1.out; have := HST.out; omega, HR4.out⟩, HPB4, HT4, HB4⟩, by simp [intOf]; omega⟩
            · have hjn : nn.toNat = j := by omega
              go_wp2_with fail
              obtain ⟨N1, hN1, h0, h1, hR⟩ := HR.out
              have hfin : doActs (newM mem (l.map (·.2)) cs, 0) (actsS (sc.take (k + 1))) = doActs S (timesS ⟨kk, th, nn⟩ j) := by
                rw [take_snoc HX.out, actsS_snoc, doActs_app, HSEQ.out]
                simp only [pickS]
                rw [hjn]
              exact ⟨⟨k + 1, by omega, by go_num, ⟨N1, by rw [take_snoc HX.out, total_snoc]; have := HNN.out; have := HPL.out; omega, by rw [hfin]; exact h0, by rw [hfin]; exact h1, by rw [hfin]; exact hR.less (fun q hq => by simp at hq; simp [hq]) (by simp) (by simp) (by simp)⟩, HT, HB⟩, by simp [intOf]; omega⟩
    · obtain rfl : k = sc.length := by omega
      obtain ⟨N1, hN1, h0, h1, hR⟩ := HR.out
      rw [List.take_length] at hN1 h0 h1 hR
      have hN2 : N1 ≤ 1048576 := by have := HLN.out.2.2.1; omega
      obtain ⟨S, hS⟩ : ∃ S, S = doActs (newM mem (l.map (·.2)) cs, 0) (actsS sc) := ⟨_, rfl⟩
      rw [← hS] at h0 h1 hR
      have cx : wr.cell? ⟨w1.heap.size, 0, none⟩ = some (.pointer (some ⟨b, 0, none⟩)) := cell_of_block hR.x rfl
      have cs0 : wr.cell? ⟨w2.heap.size, 0, none⟩ = some (.int .i64 S.2) := cell_of_block hR.s rfl
      have hbx' := lt_of_block hR.x
      have hbs' := lt_of_block hR.s
      have hns : w2.heap.size ≠ w.heap.size + 1 := by have := hR.lo; omega
      have hnx : w1.heap.size ≠ w.heap.size + 1 := by have := HNX.out; omega
      have HRR := hidI hR
      have HSS := hidI hS
      have HNN := hidI hN2
      have HH0 := hidI h0
      have HH1 := hidI h1
      obtain ⟨w3, rfl⟩ : ∃ q, q = wr := ⟨_, rfl⟩
      clear hN1 h0 h1 hR hS hN2 HR
      go_wp2_with fail
      go_region_held3 (fun w' => w'.cell? ⟨w1.heap.size, 0, none⟩ = some (.pointer (some ⟨b, 0, none⟩)) ∧ w'.cell? ⟨w2.heap.size, 0, none⟩ = some (.int .i64 S.2)) (refine ⟨?_, ?_⟩ <;> first | assumption | (simp only [World.cell?_drew]; assumption) | exact cell_other3 cx5 hnx _ _ _ | exact cell_other3 cs5 hns _ _ _) (first | (go_at_call 68; refine (seen_own (HRR.out.mach.below (Below.refl w3.heap.size w3).drew).live (by have := HNN.out; omega)).mono ?_; rintro e w4 ⟨ls, rfl, hsa, hse, hsp, hms, hb4⟩; have cx4 := (World.cell?_of_block (hb4.block _ hbx')).trans cx; have cs4 := (World.cell?_of_block (hb4.block _ hbs')).trans cs0; have HSA := hidI hsa; have HSE := hidI hse; have HSP := hidI hsp; have HMS := hidI hms; have HB4 := hidI hb4; clear hsa hse hsp hms hb4; dsimp only) | (go_at_call 69; refine (events_p (HRR.out.mach.below ((Below.refl w3.heap.size w3).drew.trans HB4.out)) (by have := HNN.out; omega)).mono ?_; rintro e w5 ⟨ve, rfl, hoe, hb5⟩; obtain ⟨veo, vec, rfl⟩ := ownsRow_shape hoe; have cx5 := (World.cell?_of_block (hb5.block w1.heap.size (by have h9 : w3.heap.size ≤ w4.heap.size := HB4.out.size; omega))).trans cx4; have cs5 := (World.cell?_of_block (hb5.block w2.heap.size (by have h9 : w3.heap.size ≤ w4.heap.size := HB4.out.size; omega))).trans cs4; have hbr := blk hb5 (blk HB4.out (show w3.drew.heap[w.heap.size + 1]? = _ from HT.out)); have fr0 := free_of_block (o := 0) hbr; have fr1 := free_of_block (o := 1) hbr; have fr2 := free_of_block (o := 2) hbr; have rr0 := cell_of_block (o := 0) hbr rfl; have rr1 := cell_of_block (o := 1) hbr rfl; have rr2 := cell_of_block (o := 2) hbr rfl; have HBR := hidI hbr; have HOE := hidI hoe; have HB5 := hidI hb5; clear hbr hoe hb5; dsimp only))
      go_wp2_with fail
      have hb35 : Below w3.heap.size w3 w5 := (Below.refl w3.heap.size w3).drew.trans (HB4.out.trans (HB5.out.mono HB4.out.size))
      have hw35 := hb35.size
      have h4s : w3.heap.size ≤ w4.heap.size := HB4.out.size
      have hwl : w.heap.size + 1 < w3.heap.size := lt_of_block HT.out
      have hq : ∀ g, g ≠ w.heap.size + 1 → (((w5.setCell ⟨w.heap.size + 1, 0, none⟩ (.slice (some ⟨w3.heap.size, 0, none⟩) ls.length ls.length)).setCell ⟨w.heap.size + 1, 1, none⟩ (.slice veo S.1.evs.length vec)).setCell ⟨w.heap.size + 1, 2, none⟩ (.int .i64 S.2)).heap[g]? = w5.heap[g]? := fun g hg => ((Below.heap_setCell _ _ _ _ hg).trans (Below.heap_setCell _ _ _ _ hg)).trans (Below.heap_setCell _ _ _ _ hg)
      have hr3 := block_setCell (o := 2) (.int .i64 S.2) (block_setCell (o := 1) (.slice veo S.1.evs.length vec) (block_setCell (o := 0) (.slice (some ⟨w3.heap.size, 0, none⟩) ls.length ls.length) HBR.out))
      refine bodyPost_ret (v := .tuple #[.agg #[.slice (some ⟨w3.heap.size, 0, none⟩) ls.length ls.length, .slice veo S.1.evs.length vec, .int .i64 S.2], .int .i64 0]) ?_ rfl ?_
      · have c0 := cell_of_block (o := 0) hr3 rfl
        have c1 := cell_of_block (o := 1) hr3 rfl
        have c2 := cell_of_block (o := 2) hr3 rfl
        simp [results, Tryz.results29, go_sem, c0, c1, c2]
      · rw [← HSS.out]
        have hdrew : w3.drew.heap.size = w3.heap.size := rfl
        refine ⟨w3.heap.size, ls, veo, vec, rfl, ?_, fun s hs => ⟨?_, fun g hg => (HSE.out s hs).2 g hg⟩, HSP.out, HMS.out, ?_, fun g hg => ⟨?_, fun s hs hg2 => ?_⟩, ?_⟩
        · exact ownsRow_mono (ownRow_keep HSA.out fun g hg hl => (hq g (by have := (rowLt HSA.out hg).1; omega)).trans (HB5.out.block g hl)) (by omega)
        · exact ownsRow_mono (ownRow_keep (HSE.out s hs).1 fun g hg hl => (hq g (by have := (HSE.out s hs).2 g hg; omega)).trans (HB5.out.block g hl)) (by omega)
        · exact ownsRow_mono (ownRow_keep HOE.out fun g hg hl => hq g (by have := (rowLt HOE.out hg).1; omega)) (by omega)
        · have h1 := (rowLt HOE.out hg).1
          have h2 : w3.heap.size < w4.heap.size := (rowLt HSA.out rfl).2
          omega
        · have h1 := (rowLt HOE.out hg).1
          have h2 := (rowLt (HSE.out s hs).1 hg2).2
          omega
        · exact (((HB.out.trans (hb35.mono HB.out.size)).setCell (by simp) _).setCell (by simp) _).setCell (by simp) _
end Go.Proofs.YtopdcjimpdalpaaGreat

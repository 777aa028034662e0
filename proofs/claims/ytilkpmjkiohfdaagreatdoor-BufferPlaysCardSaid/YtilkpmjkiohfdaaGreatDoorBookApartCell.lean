/- turnstilelaw01.Book: Apart over a book that has lists of one kind alone. (Written by mkapart.py.) -/
import Derived.Test.YtilkpmjkiohfdaaGreatDoorBookCell
namespace Go.Proofs.YtilkpmjkiohfdaaGreatDoor
open Go.RowKit
set_option linter.unusedVariables false
set_option linter.unusedSimpArgs false

set_option maxRecDepth 100000 in
set_option maxHeartbeats 8000000 in
theorem apartCell_any {w : World} {base kb M : Nat} {hv : Value} {es : List EntCell} {C : Array Value} (h : KindCell w base kb hv es) (hM : ∀ (i : Nat) e, es[i]? = some e → e.len ≤ M) (hM2 : M ≤ 1000000)
    (hb : w.heap[kb]? = some (.cells C 60 (0, 0))) (hc : C[5]? = some hv) (hno : ∀ i, 0 < i → i < 28 → i ≠ 5 → C[i]? = some (.slice none 0 0)) (hl : es.length ≤ 1000000) :
    Calls Tryz.prog 13 #[.pointer (some ⟨kb, 0, none⟩)] w fun r w' => r = .returned (.bool true) ∧ Chg (ownsCell hv es) w w' := by
  have H := hidI h
  have HM := hidI hM
  have HM2 := hidI hM2
  have HL := hidI hl
  have HC := hidI hc
  have HN := hidI hno
  have HB := hidI hb
  have HNK := hidI (show ¬ ownsCell hv es kb from fun e => by
    rcases e with e | ⟨i, e, he, hg⟩
    · exact h.kb e
    · exact (h.ne i kb e he hg).2 rfl)
  clear h hM hM2 hb hc hno hl
  go_enter Tryz.func13, Tryz.ntmps13
  go_wp2_with fail
  refine (fillNumber_no HB.out (HN.out 2 (by decide) (by decide) (by decide))).mono ?_
  rintro e wx ⟨rfl, rfl⟩
  go_wp2_with fail
  refine (fillWide_no HB.out (HN.out 3 (by decide) (by decide) (by decide))).mono ?_
  rintro e wx ⟨rfl, rfl⟩
  go_wp2_with fail
  refine (fillText_no HB.out (HN.out 4 (by decide) (by decide) (by decide))).mono ?_
  rintro e wx ⟨rfl, rfl⟩
  go_wp2_with fail
  refine (fillCell_any H.out HB.out HC.out HL.out).mono ?_
  rintro e w1 ⟨rfl, hk1, hm1, hc1⟩
  have HK1 := hidI hk1
  have HM1 := hidI hm1
  have HC1 := hidI hc1
  have HB1 := hidI (chgblk hc1 HB.out HNK.out)
  clear hk1 hm1 hc1
  go_wp2_with fail
  refine (fillIns_no HB1.out (HN.out 6 (by decide) (by decide) (by decide))).mono ?_
  rintro e wx ⟨rfl, rfl⟩
  go_wp2_with fail
  refine (fillOp_no HB1.out (HN.out 7 (by decide) (by decide) (by decide))).mono ?_
  rintro e wx ⟨rfl, rfl⟩
  go_wp2_with fail
  refine (fillEvent_no HB1.out (HN.out 8 (by decide) (by decide) (by decide))).mono ?_
  rintro e wx ⟨rfl, rfl⟩
  go_wp2_with fail
  refine (fillPick_no HB1.out (HN.out 9 (by decide) (by decide) (by decide))).mono ?_
  rintro e wx ⟨rfl, rfl⟩
  go_wp2_with fail
  refine (fillPlace_no HB1.out (HN.out 10 (by decide) (by decide) (by decide))).mono ?_
  rintro e wx ⟨rfl, rfl⟩
  go_wp2_with fail
  refine (fillTxOp_no HB1.out (HN.out 11 (by decide) (by decide) (by decide))).mono ?_
  rintro e wx ⟨rfl, rfl⟩
  go_wp2_with fail
  refine (fillToken_no HB1.out (HN.out 12 (by decide) (by decide) (by decide))).mono ?_
  rintro e wx ⟨rfl, rfl⟩
  go_wp2_with fail
  refine (fillField_no HB1.out (HN.out 13 (by decide) (by decide) (by decide))).mono ?_
  rintro e wx ⟨rfl, rfl⟩
  go_wp2_with fail
  refine (fillSpot_no HB1.out (HN.out 14 (by decide) (by decide) (by decide))).mono ?_
  rintro e wx ⟨rfl, rfl⟩
  go_wp2_with fail
  refine (fillSeen_no HB1.out (HN.out 15 (by decide) (by decide) (by decide))).mono ?_
  rintro e wx ⟨rfl, rfl⟩
  go_wp2_with fail
  refine (fillExpr_no HB1.out (HN.out 16 (by decide) (by decide) (by decide))).mono ?_
  rintro e wx ⟨rfl, rfl⟩
  go_wp2_with fail
  refine (fillStmt_no HB1.out (HN.out 17 (by decide) (by decide) (by decide))).mono ?_
  rintro e wx ⟨rfl, rfl⟩
  go_wp2_with fail
  refine (fillRecord_no HB1.out (HN.out 18 (by decide) (by decide) (by decide))).mono ?_
  rintro e wx ⟨rfl, rfl⟩
  go_wp2_with fail
  refine (fillFunc_no HB1.out (HN.out 19 (by decide) (by decide) (by decide))).mono ?_
  rintro e wx ⟨rfl, rfl⟩
  go_wp2_with fail
  refine (fillBlock_no HB1.out (HN.out 20 (by decide) (by decide) (by decide))).mono ?_
  rintro e wx ⟨rfl, rfl⟩
  go_wp2_with fail
  refine (fillGraph_no HB1.out (HN.out 21 (by decide) (by decide) (by decide))).mono ?_
  rintro e wx ⟨rfl, rfl⟩
  go_wp2_with fail
  refine (fillAttempt_no HB1.out (HN.out 22 (by decide) (by decide) (by decide))).mono ?_
  rintro e wx ⟨rfl, rfl⟩
  go_wp2_with fail
  refine (fillNumberRow_no HB1.out (HN.out 23 (by decide) (by decide) (by decide))).mono ?_
  rintro e wx ⟨rfl, rfl⟩
  go_wp2_with fail
  refine (fillOpRow_no HB1.out (HN.out 24 (by decide) (by decide) (by decide))).mono ?_
  rintro e wx ⟨rfl, rfl⟩
  go_wp2_with fail
  refine (fillStmtRow_no HB1.out (HN.out 25 (by decide) (by decide) (by decide))).mono ?_
  rintro e wx ⟨rfl, rfl⟩
  go_wp2_with fail
  refine (fillTxRow_no HB1.out (HN.out 26 (by decide) (by decide) (by decide))).mono ?_
  rintro e wx ⟨rfl, rfl⟩
  go_wp2_with fail
  refine (fillSeenRow_no HB1.out (HN.out 27 (by decide) (by decide) (by decide))).mono ?_
  rintro e wx ⟨rfl, rfl⟩
  go_wp2_with fail
  refine (growNumber_no HB1.out (HN.out 2 (by decide) (by decide) (by decide))).mono ?_
  rintro e wx ⟨rfl, rfl⟩
  go_wp2_with fail
  refine (growWide_no HB1.out (HN.out 3 (by decide) (by decide) (by decide))).mono ?_
  rintro e wx ⟨rfl, rfl⟩
  go_wp2_with fail
  refine (growText_no HB1.out (HN.out 4 (by decide) (by decide) (by decide))).mono ?_
  rintro e wx ⟨rfl, rfl⟩
  go_wp2_with fail
  refine (growCell_any HK1.out HM1.out HM.out HM2.out HB1.out HC.out HL.out).mono ?_
  rintro e w2 ⟨rfl, es2, hf2⟩
  have HF2 := hidI hf2
  have HB2 := hidI (chgblk hf2.chg HB1.out HNK.out)
  clear hf2
  go_wp2_with fail
  refine (growIns_no HB2.out (HN.out 6 (by decide) (by decide) (by decide))).mono ?_
  rintro e wx ⟨rfl, rfl⟩
  go_wp2_with fail
  refine (growOp_no HB2.out (HN.out 7 (by decide) (by decide) (by decide))).mono ?_
  rintro e wx ⟨rfl, rfl⟩
  go_wp2_with fail
  refine (growEvent_no HB2.out (HN.out 8 (by decide) (by decide) (by decide))).mono ?_
  rintro e wx ⟨rfl, rfl⟩
  go_wp2_with fail
  refine (growPick_no HB2.out (HN.out 9 (by decide) (by decide) (by decide))).mono ?_
  rintro e wx ⟨rfl, rfl⟩
  go_wp2_with fail
  refine (growPlace_no HB2.out (HN.out 10 (by decide) (by decide) (by decide))).mono ?_
  rintro e wx ⟨rfl, rfl⟩
  go_wp2_with fail
  refine (growTxOp_no HB2.out (HN.out 11 (by decide) (by decide) (by decide))).mono ?_
  rintro e wx ⟨rfl, rfl⟩
  go_wp2_with fail
  refine (growToken_no HB2.out (HN.out 12 (by decide) (by decide) (by decide))).mono ?_
  rintro e wx ⟨rfl, rfl⟩
  go_wp2_with fail
  refine (growField_no HB2.out (HN.out 13 (by decide) (by decide) (by decide))).mono ?_
  rintro e wx ⟨rfl, rfl⟩
  go_wp2_with fail
  refine (growSpot_no HB2.out (HN.out 14 (by decide) (by decide) (by decide))).mono ?_
  rintro e wx ⟨rfl, rfl⟩
  go_wp2_with fail
  refine (growSeen_no HB2.out (HN.out 15 (by decide) (by decide) (by decide))).mono ?_
  rintro e wx ⟨rfl, rfl⟩
  go_wp2_with fail
  refine (growExpr_no HB2.out (HN.out 16 (by decide) (by decide) (by decide))).mono ?_
  rintro e wx ⟨rfl, rfl⟩
  go_wp2_with fail
  refine (growStmt_no HB2.out (HN.out 17 (by decide) (by decide) (by decide))).mono ?_
  rintro e wx ⟨rfl, rfl⟩
  go_wp2_with fail
  refine (growRecord_no HB2.out (HN.out 18 (by decide) (by decide) (by decide))).mono ?_
  rintro e wx ⟨rfl, rfl⟩
  go_wp2_with fail
  refine (growFunc_no HB2.out (HN.out 19 (by decide) (by decide) (by decide))).mono ?_
  rintro e wx ⟨rfl, rfl⟩
  go_wp2_with fail
  refine (growBlock_no HB2.out (HN.out 20 (by decide) (by decide) (by decide))).mono ?_
  rintro e wx ⟨rfl, rfl⟩
  go_wp2_with fail
  refine (growGraph_no HB2.out (HN.out 21 (by decide) (by decide) (by decide))).mono ?_
  rintro e wx ⟨rfl, rfl⟩
  go_wp2_with fail
  refine (growAttempt_no HB2.out (HN.out 22 (by decide) (by decide) (by decide))).mono ?_
  rintro e wx ⟨rfl, rfl⟩
  go_wp2_with fail
  refine (growNumberRow_no HB2.out (HN.out 23 (by decide) (by decide) (by decide))).mono ?_
  rintro e wx ⟨rfl, rfl⟩
  go_wp2_with fail
  refine (growOpRow_no HB2.out (HN.out 24 (by decide) (by decide) (by decide))).mono ?_
  rintro e wx ⟨rfl, rfl⟩
  go_wp2_with fail
  refine (growStmtRow_no HB2.out (HN.out 25 (by decide) (by decide) (by decide))).mono ?_
  rintro e wx ⟨rfl, rfl⟩
  go_wp2_with fail
  refine (growTxRow_no HB2.out (HN.out 26 (by decide) (by decide) (by decide))).mono ?_
  rintro e wx ⟨rfl, rfl⟩
  go_wp2_with fail
  refine (growSeenRow_no HB2.out (HN.out 27 (by decide) (by decide) (by decide))).mono ?_
  rintro e wx ⟨rfl, rfl⟩
  obtain ⟨wc, rfl⟩ : ∃ x, x = wx := ⟨_, rfl⟩
  go_wp2_with fail
  go_loopw [3] (fun i w' => ∃ k : Nat, k ≤ 8 ∧ i = .int .u64 (k : Int) ∧ w' = wc) (fun i _ => ((8 : Int) - intOf i).toNat)
  case atStart => exact ⟨0, by omega, rfl, rfl⟩
  case round =>
    obtain ⟨k, hk, rfl, hw⟩ := hrel
    rw [hw]
    clear hw
    by_cases hlt : k < 8
    · go_wp2_with fail
      refine (bits_no k HB2.out (HN.out 1 (by decide) (by decide) (by decide))).mono ?_
      rintro e wx ⟨rfl, rfl⟩
      go_wp2_with fail
      exact ⟨⟨k + 1, by omega, by go_num, trivial⟩, by simp [intOf]; omega⟩
    · obtain rfl : k = 8 := by omega
      go_wp2_with fail
      refine (lookNumber_no HB2.out (HN.out 2 (by decide) (by decide) (by decide))).mono ?_
      rintro e wx ⟨rfl, rfl⟩
      go_wp2_with fail
      refine (lookWide_no HB2.out (HN.out 3 (by decide) (by decide) (by decide))).mono ?_
      rintro e wx ⟨rfl, rfl⟩
      go_wp2_with fail
      refine (lookText_no HB2.out (HN.out 4 (by decide) (by decide) (by decide))).mono ?_
      rintro e wx ⟨rfl, rfl⟩
      go_wp2_with fail
      refine (lookCell_any HF2.out.kind HF2.out.all HB2.out HC.out (by rw [HF2.out.len]; exact HL.out)).mono ?_
      rintro e w3 ⟨rfl, hb3⟩
      have HB3 := hidI (blk hb3 HB2.out)
      have HW3 := hidI hb3
      clear hb3
      go_wp2_with fail
      refine (lookIns_no HB3.out (HN.out 6 (by decide) (by decide) (by decide))).mono ?_
      rintro e wx ⟨rfl, rfl⟩
      go_wp2_with fail
      refine (lookOp_no HB3.out (HN.out 7 (by decide) (by decide) (by decide))).mono ?_
      rintro e wx ⟨rfl, rfl⟩
      go_wp2_with fail
      refine (lookEvent_no HB3.out (HN.out 8 (by decide) (by decide) (by decide))).mono ?_
      rintro e wx ⟨rfl, rfl⟩
      go_wp2_with fail
      refine (lookPick_no HB3.out (HN.out 9 (by decide) (by decide) (by decide))).mono ?_
      rintro e wx ⟨rfl, rfl⟩
      go_wp2_with fail
      refine (lookPlace_no HB3.out (HN.out 10 (by decide) (by decide) (by decide))).mono ?_
      rintro e wx ⟨rfl, rfl⟩
      go_wp2_with fail
      refine (lookTxOp_no HB3.out (HN.out 11 (by decide) (by decide) (by decide))).mono ?_
      rintro e wx ⟨rfl, rfl⟩
      go_wp2_with fail
      refine (lookToken_no HB3.out (HN.out 12 (by decide) (by decide) (by decide))).mono ?_
      rintro e wx ⟨rfl, rfl⟩
      go_wp2_with fail
      refine (lookField_no HB3.out (HN.out 13 (by decide) (by decide) (by decide))).mono ?_
      rintro e wx ⟨rfl, rfl⟩
      go_wp2_with fail
      refine (lookSpot_no HB3.out (HN.out 14 (by decide) (by decide) (by decide))).mono ?_
      rintro e wx ⟨rfl, rfl⟩
      go_wp2_with fail
      refine (lookSeen_no HB3.out (HN.out 15 (by decide) (by decide) (by decide))).mono ?_
      rintro e wx ⟨rfl, rfl⟩
      go_wp2_with fail
      refine (lookExpr_no HB3.out (HN.out 16 (by decide) (by decide) (by decide))).mono ?_
      rintro e wx ⟨rfl, rfl⟩
      go_wp2_with fail
      refine (lookStmt_no HB3.out (HN.out 17 (by decide) (by decide) (by decide))).mono ?_
      rintro e wx ⟨rfl, rfl⟩
      go_wp2_with fail
      refine (lookRecord_no HB3.out (HN.out 18 (by decide) (by decide) (by decide))).mono ?_
      rintro e wx ⟨rfl, rfl⟩
      go_wp2_with fail
      refine (lookFunc_no HB3.out (HN.out 19 (by decide) (by decide) (by decide))).mono ?_
      rintro e wx ⟨rfl, rfl⟩
      go_wp2_with fail
      refine (lookBlock_no HB3.out (HN.out 20 (by decide) (by decide) (by decide))).mono ?_
      rintro e wx ⟨rfl, rfl⟩
      go_wp2_with fail
      refine (lookGraph_no HB3.out (HN.out 21 (by decide) (by decide) (by decide))).mono ?_
      rintro e wx ⟨rfl, rfl⟩
      go_wp2_with fail
      refine (lookAttempt_no HB3.out (HN.out 22 (by decide) (by decide) (by decide))).mono ?_
      rintro e wx ⟨rfl, rfl⟩
      go_wp2_with fail
      refine (lookNumberRow_no HB3.out (HN.out 23 (by decide) (by decide) (by decide))).mono ?_
      rintro e wx ⟨rfl, rfl⟩
      go_wp2_with fail
      refine (lookOpRow_no HB3.out (HN.out 24 (by decide) (by decide) (by decide))).mono ?_
      rintro e wx ⟨rfl, rfl⟩
      go_wp2_with fail
      refine (lookStmtRow_no HB3.out (HN.out 25 (by decide) (by decide) (by decide))).mono ?_
      rintro e wx ⟨rfl, rfl⟩
      go_wp2_with fail
      refine (lookTxRow_no HB3.out (HN.out 26 (by decide) (by decide) (by decide))).mono ?_
      rintro e wx ⟨rfl, rfl⟩
      go_wp2_with fail
      refine (lookSeenRow_no HB3.out (HN.out 27 (by decide) (by decide) (by decide))).mono ?_
      rintro e wx ⟨rfl, rfl⟩
      go_wp2_with fail
      go_ret
      exact ⟨rfl, (HC1.out.trans HF2.out.chg).then_ (Chg.of_below (S := fun _ => False) HW3.out) (fun _ _ q => q.elim)⟩

end Go.Proofs.YtilkpmjkiohfdaaGreatDoor

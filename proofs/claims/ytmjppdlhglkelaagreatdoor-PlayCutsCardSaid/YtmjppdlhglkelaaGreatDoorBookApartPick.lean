/- turnstilelaw01.Book: Apart over a book that has lists of these kinds alone: Pick. (Written by mkapartn.py.) -/
import Derived.Test.YtmjppdlhglkelaaGreatDoorBookPick
namespace Go.Proofs.YtmjppdlhglkelaaGreatDoor
open Go.RowKit
set_option linter.unusedVariables false
set_option linter.unusedSimpArgs false

set_option maxRecDepth 100000 in
set_option maxHeartbeats 16000000 in
theorem apartPick_any {w : World} {base kb M : Nat} {C : Array Value} {hvPick : Value} {esPick : List EntPick}
    (hPick : KindPick w base kb hvPick esPick) (mPick : ∀ (i : Nat) e, esPick[i]? = some e → e.len ≤ M) (cPick : C[9]? = some hvPick) (lPick : esPick.length ≤ 1000000)
    (hM2 : M ≤ 1000000) (hb : w.heap[kb]? = some (.cells C 59 (0, 0))) (hno : ∀ i, 0 < i → i < 28 → i ≠ 9 → C[i]? = some (.slice none 0 0)) :
    Calls Tryz.prog 12 #[.pointer (some ⟨kb, 0, none⟩)] w fun r w' => r = .returned (.bool true) ∧ Chg (fun k => ownsPick hvPick esPick k) w w' := by
  have HM2 := hidI hM2
  have HN := hidI hno
  have HB := hidI hb
  have CH := hidI (Chg.refl (fun k => ownsPick hvPick esPick k) w)
  have KPick := hidI hPick
  have LMPick := hidI mPick
  have CPick := hidI cPick
  have LPick := hidI lPick
  have NKPick := hidI hPick.notkb
  clear hM2 hb hno hPick mPick cPick lPick
  go_enter Tryz.func12, Tryz.ntmps12
  go_wp2_with fail
  refine (fillNumber_no HB.out (HN.out 2 (by decide) (by decide) (by decide))).mono ?_
  rintro e wx ⟨rfl, rfl⟩
  go_wp2_with fail
  refine (fillWide_no HB.out (HN.out 3 (by decide) (by decide) (by decide))).mono ?_
  rintro e wx ⟨rfl, rfl⟩
  go_wp2_with fail
  refine (fillText_no HB.out (HN.out 4 (by decide) (by decide) (by decide))).mono ?_
  rintro e wx ⟨rfl, rfl⟩
  go_wp2_with fail
  refine (fillCell_no HB.out (HN.out 5 (by decide) (by decide) (by decide))).mono ?_
  rintro e wx ⟨rfl, rfl⟩
  go_wp2_with fail
  refine (fillIns_no HB.out (HN.out 6 (by decide) (by decide) (by decide))).mono ?_
  rintro e wx ⟨rfl, rfl⟩
  go_wp2_with fail
  refine (fillOp_no HB.out (HN.out 7 (by decide) (by decide) (by decide))).mono ?_
  rintro e wx ⟨rfl, rfl⟩
  go_wp2_with fail
  refine (fillEvent_no HB.out (HN.out 8 (by decide) (by decide) (by decide))).mono ?_
  rintro e wx ⟨rfl, rfl⟩
  go_wp2_with fail
  refine (fillPick_any KPick.out HB.out CPick.out LPick.out).mono ?_
  rintro e w1 ⟨rfl, hk, hm, hc⟩
  have HB_1 := hidI (chgblk hc HB.out NKPick.out)
  have CH_1 := hidI (CH.out.then_ hc (fun k _ hk => hk))
  have KPick_1 := hidI hk
  have MPick_1 := hidI hm
  clear hk hm hc
  go_wp2_with fail
  refine (fillPlace_no HB_1.out (HN.out 10 (by decide) (by decide) (by decide))).mono ?_
  rintro e wx ⟨rfl, rfl⟩
  go_wp2_with fail
  refine (fillTxOp_no HB_1.out (HN.out 11 (by decide) (by decide) (by decide))).mono ?_
  rintro e wx ⟨rfl, rfl⟩
  go_wp2_with fail
  refine (fillToken_no HB_1.out (HN.out 12 (by decide) (by decide) (by decide))).mono ?_
  rintro e wx ⟨rfl, rfl⟩
  go_wp2_with fail
  refine (fillField_no HB_1.out (HN.out 13 (by decide) (by decide) (by decide))).mono ?_
  rintro e wx ⟨rfl, rfl⟩
  go_wp2_with fail
  refine (fillSpot_no HB_1.out (HN.out 14 (by decide) (by decide) (by decide))).mono ?_
  rintro e wx ⟨rfl, rfl⟩
  go_wp2_with fail
  refine (fillSeen_no HB_1.out (HN.out 15 (by decide) (by decide) (by decide))).mono ?_
  rintro e wx ⟨rfl, rfl⟩
  go_wp2_with fail
  refine (fillExpr_no HB_1.out (HN.out 16 (by decide) (by decide) (by decide))).mono ?_
  rintro e wx ⟨rfl, rfl⟩
  go_wp2_with fail
  refine (fillStmt_no HB_1.out (HN.out 17 (by decide) (by decide) (by decide))).mono ?_
  rintro e wx ⟨rfl, rfl⟩
  go_wp2_with fail
  refine (fillRecord_no HB_1.out (HN.out 18 (by decide) (by decide) (by decide))).mono ?_
  rintro e wx ⟨rfl, rfl⟩
  go_wp2_with fail
  refine (fillFunc_no HB_1.out (HN.out 19 (by decide) (by decide) (by decide))).mono ?_
  rintro e wx ⟨rfl, rfl⟩
  go_wp2_with fail
  refine (fillBlock_no HB_1.out (HN.out 20 (by decide) (by decide) (by decide))).mono ?_
  rintro e wx ⟨rfl, rfl⟩
  go_wp2_with fail
  refine (fillGraph_no HB_1.out (HN.out 21 (by decide) (by decide) (by decide))).mono ?_
  rintro e wx ⟨rfl, rfl⟩
  go_wp2_with fail
  refine (fillAttempt_no HB_1.out (HN.out 22 (by decide) (by decide) (by decide))).mono ?_
  rintro e wx ⟨rfl, rfl⟩
  go_wp2_with fail
  refine (fillNumberRow_no HB_1.out (HN.out 23 (by decide) (by decide) (by decide))).mono ?_
  rintro e wx ⟨rfl, rfl⟩
  go_wp2_with fail
  refine (fillOpRow_no HB_1.out (HN.out 24 (by decide) (by decide) (by decide))).mono ?_
  rintro e wx ⟨rfl, rfl⟩
  go_wp2_with fail
  refine (fillStmtRow_no HB_1.out (HN.out 25 (by decide) (by decide) (by decide))).mono ?_
  rintro e wx ⟨rfl, rfl⟩
  go_wp2_with fail
  refine (fillTxRow_no HB_1.out (HN.out 26 (by decide) (by decide) (by decide))).mono ?_
  rintro e wx ⟨rfl, rfl⟩
  go_wp2_with fail
  refine (fillSeenRow_no HB_1.out (HN.out 27 (by decide) (by decide) (by decide))).mono ?_
  rintro e wx ⟨rfl, rfl⟩
  go_wp2_with fail
  refine (growNumber_no HB_1.out (HN.out 2 (by decide) (by decide) (by decide))).mono ?_
  rintro e wx ⟨rfl, rfl⟩
  go_wp2_with fail
  refine (growWide_no HB_1.out (HN.out 3 (by decide) (by decide) (by decide))).mono ?_
  rintro e wx ⟨rfl, rfl⟩
  go_wp2_with fail
  refine (growText_no HB_1.out (HN.out 4 (by decide) (by decide) (by decide))).mono ?_
  rintro e wx ⟨rfl, rfl⟩
  go_wp2_with fail
  refine (growCell_no HB_1.out (HN.out 5 (by decide) (by decide) (by decide))).mono ?_
  rintro e wx ⟨rfl, rfl⟩
  go_wp2_with fail
  refine (growIns_no HB_1.out (HN.out 6 (by decide) (by decide) (by decide))).mono ?_
  rintro e wx ⟨rfl, rfl⟩
  go_wp2_with fail
  refine (growOp_no HB_1.out (HN.out 7 (by decide) (by decide) (by decide))).mono ?_
  rintro e wx ⟨rfl, rfl⟩
  go_wp2_with fail
  refine (growEvent_no HB_1.out (HN.out 8 (by decide) (by decide) (by decide))).mono ?_
  rintro e wx ⟨rfl, rfl⟩
  go_wp2_with fail
  refine (growPick_any KPick_1.out MPick_1.out LMPick.out HM2.out HB_1.out CPick.out LPick.out).mono ?_
  rintro e w2 ⟨rfl, esPick2, hf⟩
  have HB_2 := hidI (chgblk hf.chg HB_1.out NKPick.out)
  have CH_2 := hidI (CH_1.out.then_ hf.chg (fun k _ hk => hk))
  have HFPick := hidI hf
  clear hf
  have KPick_2 := hidI HFPick.out.kind
  have MPick_2 := hidI HFPick.out.all
  go_wp2_with fail
  refine (growPlace_no HB_2.out (HN.out 10 (by decide) (by decide) (by decide))).mono ?_
  rintro e wx ⟨rfl, rfl⟩
  go_wp2_with fail
  refine (growTxOp_no HB_2.out (HN.out 11 (by decide) (by decide) (by decide))).mono ?_
  rintro e wx ⟨rfl, rfl⟩
  go_wp2_with fail
  refine (growToken_no HB_2.out (HN.out 12 (by decide) (by decide) (by decide))).mono ?_
  rintro e wx ⟨rfl, rfl⟩
  go_wp2_with fail
  refine (growField_no HB_2.out (HN.out 13 (by decide) (by decide) (by decide))).mono ?_
  rintro e wx ⟨rfl, rfl⟩
  go_wp2_with fail
  refine (growSpot_no HB_2.out (HN.out 14 (by decide) (by decide) (by decide))).mono ?_
  rintro e wx ⟨rfl, rfl⟩
  go_wp2_with fail
  refine (growSeen_no HB_2.out (HN.out 15 (by decide) (by decide) (by decide))).mono ?_
  rintro e wx ⟨rfl, rfl⟩
  go_wp2_with fail
  refine (growExpr_no HB_2.out (HN.out 16 (by decide) (by decide) (by decide))).mono ?_
  rintro e wx ⟨rfl, rfl⟩
  go_wp2_with fail
  refine (growStmt_no HB_2.out (HN.out 17 (by decide) (by decide) (by decide))).mono ?_
  rintro e wx ⟨rfl, rfl⟩
  go_wp2_with fail
  refine (growRecord_no HB_2.out (HN.out 18 (by decide) (by decide) (by decide))).mono ?_
  rintro e wx ⟨rfl, rfl⟩
  go_wp2_with fail
  refine (growFunc_no HB_2.out (HN.out 19 (by decide) (by decide) (by decide))).mono ?_
  rintro e wx ⟨rfl, rfl⟩
  go_wp2_with fail
  refine (growBlock_no HB_2.out (HN.out 20 (by decide) (by decide) (by decide))).mono ?_
  rintro e wx ⟨rfl, rfl⟩
  go_wp2_with fail
  refine (growGraph_no HB_2.out (HN.out 21 (by decide) (by decide) (by decide))).mono ?_
  rintro e wx ⟨rfl, rfl⟩
  go_wp2_with fail
  refine (growAttempt_no HB_2.out (HN.out 22 (by decide) (by decide) (by decide))).mono ?_
  rintro e wx ⟨rfl, rfl⟩
  go_wp2_with fail
  refine (growNumberRow_no HB_2.out (HN.out 23 (by decide) (by decide) (by decide))).mono ?_
  rintro e wx ⟨rfl, rfl⟩
  go_wp2_with fail
  refine (growOpRow_no HB_2.out (HN.out 24 (by decide) (by decide) (by decide))).mono ?_
  rintro e wx ⟨rfl, rfl⟩
  go_wp2_with fail
  refine (growStmtRow_no HB_2.out (HN.out 25 (by decide) (by decide) (by decide))).mono ?_
  rintro e wx ⟨rfl, rfl⟩
  go_wp2_with fail
  refine (growTxRow_no HB_2.out (HN.out 26 (by decide) (by decide) (by decide))).mono ?_
  rintro e wx ⟨rfl, rfl⟩
  go_wp2_with fail
  refine (growSeenRow_no HB_2.out (HN.out 27 (by decide) (by decide) (by decide))).mono ?_
  rintro e wx ⟨rfl, rfl⟩
  obtain ⟨wc, rfl⟩ : ∃ x, x = wx := ⟨_, rfl⟩
  go_wp2_with fail
  go_loopw [3] (fun i w' => ∃ k : Nat, k ≤ 8 ∧ i = .int .u64 (k : Int) ∧ w' = wc) (fun i _ => ((8 : Int) - intOf i).toNat)
  case atStart => exact ⟨0, by omega, rfl, rfl⟩
  case round =>
    obtain ⟨k, hk, rfl, hw⟩ := hrel
    rw [hw]
    clear hw
    by_cases hlt : k < 8
    · go_wp2_with fail
      refine (bits_no k HB_2.out (HN.out 1 (by decide) (by decide) (by decide))).mono ?_
      rintro e wx ⟨rfl, rfl⟩
      go_wp2_with fail
      exact ⟨⟨k + 1, by omega, by go_num, trivial⟩, by simp [intOf]; omega⟩
    · obtain rfl : k = 8 := by omega
      have HW_0 := hidI (Below.refl wc.heap.size wc)
      go_wp2_with fail
      refine (lookNumber_no HB_2.out (HN.out 2 (by decide) (by decide) (by decide))).mono ?_
      rintro e wx ⟨rfl, rfl⟩
      go_wp2_with fail
      refine (lookWide_no HB_2.out (HN.out 3 (by decide) (by decide) (by decide))).mono ?_
      rintro e wx ⟨rfl, rfl⟩
      go_wp2_with fail
      refine (lookText_no HB_2.out (HN.out 4 (by decide) (by decide) (by decide))).mono ?_
      rintro e wx ⟨rfl, rfl⟩
      go_wp2_with fail
      refine (lookCell_no HB_2.out (HN.out 5 (by decide) (by decide) (by decide))).mono ?_
      rintro e wx ⟨rfl, rfl⟩
      go_wp2_with fail
      refine (lookIns_no HB_2.out (HN.out 6 (by decide) (by decide) (by decide))).mono ?_
      rintro e wx ⟨rfl, rfl⟩
      go_wp2_with fail
      refine (lookOp_no HB_2.out (HN.out 7 (by decide) (by decide) (by decide))).mono ?_
      rintro e wx ⟨rfl, rfl⟩
      go_wp2_with fail
      refine (lookEvent_no HB_2.out (HN.out 8 (by decide) (by decide) (by decide))).mono ?_
      rintro e wx ⟨rfl, rfl⟩
      go_wp2_with fail
      refine (lookPick_any KPick_2.out MPick_2.out HB_2.out CPick.out (by rw [HFPick.out.len]; exact LPick.out)).mono ?_
      rintro e wl1 ⟨rfl, hb3⟩
      have HB_l1 := hidI (blk hb3 HB_2.out)
      have CH_l1 := hidI (CH_2.out.then_ (Chg.of_below (S := fun _ => False) hb3) (fun _ _ q => q.elim))
      clear hb3
      go_wp2_with fail
      refine (lookPlace_no HB_l1.out (HN.out 10 (by decide) (by decide) (by decide))).mono ?_
      rintro e wx ⟨rfl, rfl⟩
      go_wp2_with fail
      refine (lookTxOp_no HB_l1.out (HN.out 11 (by decide) (by decide) (by decide))).mono ?_
      rintro e wx ⟨rfl, rfl⟩
      go_wp2_with fail
      refine (lookToken_no HB_l1.out (HN.out 12 (by decide) (by decide) (by decide))).mono ?_
      rintro e wx ⟨rfl, rfl⟩
      go_wp2_with fail
      refine (lookField_no HB_l1.out (HN.out 13 (by decide) (by decide) (by decide))).mono ?_
      rintro e wx ⟨rfl, rfl⟩
      go_wp2_with fail
      refine (lookSpot_no HB_l1.out (HN.out 14 (by decide) (by decide) (by decide))).mono ?_
      rintro e wx ⟨rfl, rfl⟩
      go_wp2_with fail
      refine (lookSeen_no HB_l1.out (HN.out 15 (by decide) (by decide) (by decide))).mono ?_
      rintro e wx ⟨rfl, rfl⟩
      go_wp2_with fail
      refine (lookExpr_no HB_l1.out (HN.out 16 (by decide) (by decide) (by decide))).mono ?_
      rintro e wx ⟨rfl, rfl⟩
      go_wp2_with fail
      refine (lookStmt_no HB_l1.out (HN.out 17 (by decide) (by decide) (by decide))).mono ?_
      rintro e wx ⟨rfl, rfl⟩
      go_wp2_with fail
      refine (lookRecord_no HB_l1.out (HN.out 18 (by decide) (by decide) (by decide))).mono ?_
      rintro e wx ⟨rfl, rfl⟩
      go_wp2_with fail
      refine (lookFunc_no HB_l1.out (HN.out 19 (by decide) (by decide) (by decide))).mono ?_
      rintro e wx ⟨rfl, rfl⟩
      go_wp2_with fail
      refine (lookBlock_no HB_l1.out (HN.out 20 (by decide) (by decide) (by decide))).mono ?_
      rintro e wx ⟨rfl, rfl⟩
      go_wp2_with fail
      refine (lookGraph_no HB_l1.out (HN.out 21 (by decide) (by decide) (by decide))).mono ?_
      rintro e wx ⟨rfl, rfl⟩
      go_wp2_with fail
      refine (lookAttempt_no HB_l1.out (HN.out 22 (by decide) (by decide) (by decide))).mono ?_
      rintro e wx ⟨rfl, rfl⟩
      go_wp2_with fail
      refine (lookNumberRow_no HB_l1.out (HN.out 23 (by decide) (by decide) (by decide))).mono ?_
      rintro e wx ⟨rfl, rfl⟩
      go_wp2_with fail
      refine (lookOpRow_no HB_l1.out (HN.out 24 (by decide) (by decide) (by decide))).mono ?_
      rintro e wx ⟨rfl, rfl⟩
      go_wp2_with fail
      refine (lookStmtRow_no HB_l1.out (HN.out 25 (by decide) (by decide) (by decide))).mono ?_
      rintro e wx ⟨rfl, rfl⟩
      go_wp2_with fail
      refine (lookTxRow_no HB_l1.out (HN.out 26 (by decide) (by decide) (by decide))).mono ?_
      rintro e wx ⟨rfl, rfl⟩
      go_wp2_with fail
      refine (lookSeenRow_no HB_l1.out (HN.out 27 (by decide) (by decide) (by decide))).mono ?_
      rintro e wx ⟨rfl, rfl⟩
      go_wp2_with fail
      go_ret
      exact ⟨rfl, CH_l1.out⟩

end Go.Proofs.YtmjppdlhglkelaaGreatDoor

/- Part of the proof: BookApartImg, BookZ, BkImg -/
import Derived.Test.YtgodmogkhgilmaaGreatDoorP38
import Derived.Test.YtgodmogkhgilmaaGreatDoorP39
import Derived.Test.YtgodmogkhgilmaaGreatDoorP40
namespace Go.Proofs.YtgodmogkhgilmaaGreatDoor
open Go.RowKit
set_option linter.unusedVariables false
set_option linter.unusedSimpArgs false
set_option maxHeartbeats 16000000
set_option maxRecDepth 100000
theorem apartImg_any {w : World} {base kb M : Nat} {C : Array Value} {hvCell : Value} {esCell : List EntCell} {hvOp : Value} {esOp : List EntOp} {hvOpRow : Value} {esOpRow : List EntOpRow}
    (hCell : KindCell w base kb hvCell esCell) (mCell : ∀ (i : Nat) e, esCell[i]? = some e → e.len ≤ M) (cCell : C[5]? = some hvCell) (lCell : esCell.length ≤ 4000000)
    (hOp : KindOp w base kb hvOp esOp) (mOp : ∀ (i : Nat) e, esOp[i]? = some e → e.len ≤ M) (cOp : C[7]? = some hvOp) (lOp : esOp.length ≤ 4000000)
    (hOpRow : KindOpRow w base kb hvOpRow esOpRow) (mOpRow : ∀ (i : Nat) e, esOpRow[i]? = some e → e.len ≤ M) (cOpRow : C[24]? = some hvOpRow) (lOpRow : esOpRow.length ≤ 4000000)
    (sCellOp : ∀ g, ownsCell hvCell esCell g → ¬ ownsOp hvOp esOp g)
    (sCellOpRow : ∀ g, ownsCell hvCell esCell g → ¬ ownsOpRow hvOpRow esOpRow g)
    (sOpOpRow : ∀ g, ownsOp hvOp esOp g → ¬ ownsOpRow hvOpRow esOpRow g)
    (hM2 : M ≤ 4000000) (hb : w.heap[kb]? = some (.cells C 67 (0, 0))) (hno : ∀ i, 0 < i → i < 28 → i ≠ 5 → i ≠ 7 → i ≠ 24 → C[i]? = some (.slice none 0 0)) :
    Calls Tryz.prog 15 #[.pointer (some ⟨kb, 0, none⟩)] w fun r w' => r = .returned (.bool true) ∧ Chg (fun k => ownsCell hvCell esCell k ∨ ownsOp hvOp esOp k ∨ ownsOpRow hvOpRow esOpRow k) w w' := by
  have HM2 := hidI hM2
  have HN := hidI hno
  have HB := hidI hb
  have CH := hidI (Chg.refl (fun k => ownsCell hvCell esCell k ∨ ownsOp hvOp esOp k ∨ ownsOpRow hvOpRow esOpRow k) w)
  have KCell := hidI hCell
  have LMCell := hidI mCell
  have CCell := hidI cCell
  have LCell := hidI lCell
  have NKCell := hidI hCell.notkb
  have KOp := hidI hOp
  have LMOp := hidI mOp
  have COp := hidI cOp
  have LOp := hidI lOp
  have NKOp := hidI hOp.notkb
  have KOpRow := hidI hOpRow
  have LMOpRow := hidI mOpRow
  have COpRow := hidI cOpRow
  have LOpRow := hidI lOpRow
  have NKOpRow := hidI hOpRow.notkb
  have SCellOp := hidI sCellOp
  have SCellOpRow := hidI sCellOpRow
  have SOpOpRow := hidI sOpOpRow
  clear hM2 hb hno hCell mCell cCell lCell hOp mOp cOp lOp hOpRow mOpRow cOpRow lOpRow sCellOp sCellOpRow sOpOpRow
  go_enter Tryz.func15, Tryz.ntmps15
  go_wp2_with fail
  refine (fillNumber_no HB.out (HN.out 2 (by decide) (by decide) (by decide) (by decide) (by decide))).mono ?_
  rintro e wx ⟨rfl, rfl⟩
  go_wp2_with fail
  refine (fillWide_no HB.out (HN.out 3 (by decide) (by decide) (by decide) (by decide) (by decide))).mono ?_
  rintro e wx ⟨rfl, rfl⟩
  go_wp2_with fail
  refine (fillText_no HB.out (HN.out 4 (by decide) (by decide) (by decide) (by decide) (by decide))).mono ?_
  rintro e wx ⟨rfl, rfl⟩
  go_wp2_with fail
  refine (fillCell_any KCell.out HB.out CCell.out LCell.out).mono ?_
  rintro e w1 ⟨rfl, hk, hm, hc⟩
  have KOp_1 := hidI (KOp.out.keep (fun g hg hlt => hc.block g hlt (fun e => SCellOp.out g (e) (hg))))
  have KOpRow_1 := hidI (KOpRow.out.keep (fun g hg hlt => hc.block g hlt (fun e => SCellOpRow.out g (e) (hg))))
  have HB_1 := hidI (chgblk hc HB.out NKCell.out)
  have CH_1 := hidI (CH.out.then_ hc (fun k _ hk => .inl (hk)))
  have KCell_1 := hidI hk
  have MCell_1 := hidI hm
  clear hk hm hc
  go_wp2_with fail
  refine (fillIns_no HB_1.out (HN.out 6 (by decide) (by decide) (by decide) (by decide) (by decide))).mono ?_
  rintro e wx ⟨rfl, rfl⟩
  go_wp2_with fail
  refine (fillOp_any KOp_1.out HB_1.out COp.out LOp.out).mono ?_
  rintro e w2 ⟨rfl, hk, hm, hc⟩
  have KCell_2 := hidI (KCell_1.out.keep (fun g hg hlt => hc.block g hlt (fun e => SCellOp.out g (hg) (e))))
  have MCell_2 := hidI (keepAllCell MCell_1.out (fun g hg hlt => hc.block g hlt (fun e => SCellOp.out g (hg) (e))))
  have KOpRow_2 := hidI (KOpRow_1.out.keep (fun g hg hlt => hc.block g hlt (fun e => SOpOpRow.out g (e) (hg))))
  have HB_2 := hidI (chgblk hc HB_1.out NKOp.out)
  have CH_2 := hidI (CH_1.out.then_ hc (fun k _ hk => .inr (.inl (hk))))
  have KOp_2 := hidI hk
  have MOp_2 := hidI hm
  clear hk hm hc
  go_wp2_with fail
  refine (fillEvent_no HB_2.out (HN.out 8 (by decide) (by decide) (by decide) (by decide) (by decide))).mono ?_
  rintro e wx ⟨rfl, rfl⟩
  go_wp2_with fail
  refine (fillPick_no HB_2.out (HN.out 9 (by decide) (by decide) (by decide) (by decide) (by decide))).mono ?_
  rintro e wx ⟨rfl, rfl⟩
  go_wp2_with fail
  refine (fillPlace_no HB_2.out (HN.out 10 (by decide) (by decide) (by decide) (by decide) (by decide))).mono ?_
  rintro e wx ⟨rfl, rfl⟩
  go_wp2_with fail
  refine (fillTxOp_no HB_2.out (HN.out 11 (by decide) (by decide) (by decide) (by decide) (by decide))).mono ?_
  rintro e wx ⟨rfl, rfl⟩
  go_wp2_with fail
  refine (fillToken_no HB_2.out (HN.out 12 (by decide) (by decide) (by decide) (by decide) (by decide))).mono ?_
  rintro e wx ⟨rfl, rfl⟩
  go_wp2_with fail
  refine (fillField_no HB_2.out (HN.out 13 (by decide) (by decide) (by decide) (by decide) (by decide))).mono ?_
  rintro e wx ⟨rfl, rfl⟩
  go_wp2_with fail
  refine (fillSpot_no HB_2.out (HN.out 14 (by decide) (by decide) (by decide) (by decide) (by decide))).mono ?_
  rintro e wx ⟨rfl, rfl⟩
  go_wp2_with fail
  refine (fillSeen_no HB_2.out (HN.out 15 (by decide) (by decide) (by decide) (by decide) (by decide))).mono ?_
  rintro e wx ⟨rfl, rfl⟩
  go_wp2_with fail
  refine (fillExpr_no HB_2.out (HN.out 16 (by decide) (by decide) (by decide) (by decide) (by decide))).mono ?_
  rintro e wx ⟨rfl, rfl⟩
  go_wp2_with fail
  refine (fillStmt_no HB_2.out (HN.out 17 (by decide) (by decide) (by decide) (by decide) (by decide))).mono ?_
  rintro e wx ⟨rfl, rfl⟩
  go_wp2_with fail
  refine (fillRecord_no HB_2.out (HN.out 18 (by decide) (by decide) (by decide) (by decide) (by decide))).mono ?_
  rintro e wx ⟨rfl, rfl⟩
  go_wp2_with fail
  refine (fillFunc_no HB_2.out (HN.out 19 (by decide) (by decide) (by decide) (by decide) (by decide))).mono ?_
  rintro e wx ⟨rfl, rfl⟩
  go_wp2_with fail
  refine (fillBlock_no HB_2.out (HN.out 20 (by decide) (by decide) (by decide) (by decide) (by decide))).mono ?_
  rintro e wx ⟨rfl, rfl⟩
  go_wp2_with fail
  refine (fillGraph_no HB_2.out (HN.out 21 (by decide) (by decide) (by decide) (by decide) (by decide))).mono ?_
  rintro e wx ⟨rfl, rfl⟩
  go_wp2_with fail
  refine (fillAttempt_no HB_2.out (HN.out 22 (by decide) (by decide) (by decide) (by decide) (by decide))).mono ?_
  rintro e wx ⟨rfl, rfl⟩
  go_wp2_with fail
  refine (fillNumberRow_no HB_2.out (HN.out 23 (by decide) (by decide) (by decide) (by decide) (by decide))).mono ?_
  rintro e wx ⟨rfl, rfl⟩
  go_wp2_with fail
  refine (fillOpRow_any KOpRow_2.out HB_2.out COpRow.out LOpRow.out).mono ?_
  rintro e w3 ⟨rfl, hk, hm, hc⟩
  have KCell_3 := hidI (KCell_2.out.keep (fun g hg hlt => hc.block g hlt (fun e => SCellOpRow.out g (hg) (e))))
  have MCell_3 := hidI (keepAllCell MCell_2.out (fun g hg hlt => hc.block g hlt (fun e => SCellOpRow.out g (hg) (e))))
  have KOp_3 := hidI (KOp_2.out.keep (fun g hg hlt => hc.block g hlt (fun e => SOpOpRow.out g (hg) (e))))
  have MOp_3 := hidI (keepAllOp MOp_2.out (fun g hg hlt => hc.block g hlt (fun e => SOpOpRow.out g (hg) (e))))
  have HB_3 := hidI (chgblk hc HB_2.out NKOpRow.out)
  have CH_3 := hidI (CH_2.out.then_ hc (fun k _ hk => .inr (.inr (hk))))
  have KOpRow_3 := hidI hk
  have MOpRow_3 := hidI hm
  clear hk hm hc
  go_wp2_with fail
  refine (fillStmtRow_no HB_3.out (HN.out 25 (by decide) (by decide) (by decide) (by decide) (by decide))).mono ?_
  rintro e wx ⟨rfl, rfl⟩
  go_wp2_with fail
  refine (fillTxRow_no HB_3.out (HN.out 26 (by decide) (by decide) (by decide) (by decide) (by decide))).mono ?_
  rintro e wx ⟨rfl, rfl⟩
  go_wp2_with fail
  refine (fillSeenRow_no HB_3.out (HN.out 27 (by decide) (by decide) (by decide) (by decide) (by decide))).mono ?_
  rintro e wx ⟨rfl, rfl⟩
  go_wp2_with fail
  refine (growNumber_no HB_3.out (HN.out 2 (by decide) (by decide) (by decide) (by decide) (by decide))).mono ?_
  rintro e wx ⟨rfl, rfl⟩
  go_wp2_with fail
  refine (growWide_no HB_3.out (HN.out 3 (by decide) (by decide) (by decide) (by decide) (by decide))).mono ?_
  rintro e wx ⟨rfl, rfl⟩
  go_wp2_with fail
  refine (growText_no HB_3.out (HN.out 4 (by decide) (by decide) (by decide) (by decide) (by decide))).mono ?_
  rintro e wx ⟨rfl, rfl⟩
  go_wp2_with fail
  refine (growCell_any KCell_3.out MCell_3.out LMCell.out HM2.out HB_3.out CCell.out LCell.out).mono ?_
  rintro e w4 ⟨rfl, esCell2, hf⟩
  have SCellOp_4 := hidI (hf.sep SCellOp.out (fun g hg => (KOp_3.out.from hg).2))
  have SCellOpRow_4 := hidI (hf.sep SCellOpRow.out (fun g hg => (KOpRow_3.out.from hg).2))
  have KOp_4 := hidI (KOp_3.out.keep (fun g hg hlt => hf.chg.block g hlt (fun e => SCellOp.out g (e) (hg))))
  have MOp_4 := hidI (keepAllOp MOp_3.out (fun g hg hlt => hf.chg.block g hlt (fun e => SCellOp.out g (e) (hg))))
  have KOpRow_4 := hidI (KOpRow_3.out.keep (fun g hg hlt => hf.chg.block g hlt (fun e => SCellOpRow.out g (e) (hg))))
  have MOpRow_4 := hidI (keepAllOpRow MOpRow_3.out (fun g hg hlt => hf.chg.block g hlt (fun e => SCellOpRow.out g (e) (hg))))
  have HB_4 := hidI (chgblk hf.chg HB_3.out NKCell.out)
  have CH_4 := hidI (CH_3.out.then_ hf.chg (fun k _ hk => .inl (hk)))
  have HFCell := hidI hf
  clear hf
  have KCell_4 := hidI HFCell.out.kind
  have MCell_4 := hidI HFCell.out.all
  go_wp2_with fail
  refine (growIns_no HB_4.out (HN.out 6 (by decide) (by decide) (by decide) (by decide) (by decide))).mono ?_
  rintro e wx ⟨rfl, rfl⟩
  go_wp2_with fail
  refine (growOp_any KOp_4.out MOp_4.out LMOp.out HM2.out HB_4.out COp.out LOp.out).mono ?_
  rintro e w5 ⟨rfl, esOp2, hf⟩
  have SCellOp_5 := hidI (fun g hy hx => hf.sep (fun g hx hy => SCellOp_4.out g hy hx) (fun g hg => (KCell_4.out.from hg).2) g hx hy)
  have SOpOpRow_5 := hidI (hf.sep SOpOpRow.out (fun g hg => (KOpRow_4.out.from hg).2))
  have KCell_5 := hidI (KCell_4.out.keep (fun g hg hlt => hf.chg.block g hlt (fun e => SCellOp_4.out g (hg) (e))))
  have MCell_5 := hidI (keepAllCell MCell_4.out (fun g hg hlt => hf.chg.block g hlt (fun e => SCellOp_4.out g (hg) (e))))
  have KOpRow_5 := hidI (KOpRow_4.out.keep (fun g hg hlt => hf.chg.block g hlt (fun e => SOpOpRow.out g (e) (hg))))
  have MOpRow_5 := hidI (keepAllOpRow MOpRow_4.out (fun g hg hlt => hf.chg.block g hlt (fun e => SOpOpRow.out g (e) (hg))))
  have HB_5 := hidI (chgblk hf.chg HB_4.out NKOp.out)
  have CH_5 := hidI (CH_4.out.then_ hf.chg (fun k _ hk => .inr (.inl (hk))))
  have HFOp := hidI hf
  clear hf
  have KOp_5 := hidI HFOp.out.kind
  have MOp_5 := hidI HFOp.out.all
  go_wp2_with fail
  refine (growEvent_no HB_5.out (HN.out 8 (by decide) (by decide) (by decide) (by decide) (by decide))).mono ?_
  rintro e wx ⟨rfl, rfl⟩
  go_wp2_with fail
  refine (growPick_no HB_5.out (HN.out 9 (by decide) (by decide) (by decide) (by decide) (by decide))).mono ?_
  rintro e wx ⟨rfl, rfl⟩
  go_wp2_with fail
  refine (growPlace_no HB_5.out (HN.out 10 (by decide) (by decide) (by decide) (by decide) (by decide))).mono ?_
  rintro e wx ⟨rfl, rfl⟩
  go_wp2_with fail
  refine (growTxOp_no HB_5.out (HN.out 11 (by decide) (by decide) (by decide) (by decide) (by decide))).mono ?_
  rintro e wx ⟨rfl, rfl⟩
  go_wp2_with fail
  refine (growToken_no HB_5.out (HN.out 12 (by decide) (by decide) (by decide) (by decide) (by decide))).mono ?_
  rintro e wx ⟨rfl, rfl⟩
  go_wp2_with fail
  refine (growField_no HB_5.out (HN.out 13 (by decide) (by decide) (by decide) (by decide) (by decide))).mono ?_
  rintro e wx ⟨rfl, rfl⟩
  go_wp2_with fail
  refine (growSpot_no HB_5.out (HN.out 14 (by decide) (by decide) (by decide) (by decide) (by decide))).mono ?_
  rintro e wx ⟨rfl, rfl⟩
  go_wp2_with fail
  refine (growSeen_no HB_5.out (HN.out 15 (by decide) (by decide) (by decide) (by decide) (by decide))).mono ?_
  rintro e wx ⟨rfl, rfl⟩
  go_wp2_with fail
  refine (growExpr_no HB_5.out (HN.out 16 (by decide) (by decide) (by decide) (by decide) (by decide))).mono ?_
  rintro e wx ⟨rfl, rfl⟩
  go_wp2_with fail
  refine (growStmt_no HB_5.out (HN.out 17 (by decide) (by decide) (by decide) (by decide) (by decide))).mono ?_
  rintro e wx ⟨rfl, rfl⟩
  go_wp2_with fail
  refine (growRecord_no HB_5.out (HN.out 18 (by decide) (by decide) (by decide) (by decide) (by decide))).mono ?_
  rintro e wx ⟨rfl, rfl⟩
  go_wp2_with fail
  refine (growFunc_no HB_5.out (HN.out 19 (by decide) (by decide) (by decide) (by decide) (by decide))).mono ?_
  rintro e wx ⟨rfl, rfl⟩
  go_wp2_with fail
  refine (growBlock_no HB_5.out (HN.out 20 (by decide) (by decide) (by decide) (by decide) (by decide))).mono ?_
  rintro e wx ⟨rfl, rfl⟩
  go_wp2_with fail
  refine (growGraph_no HB_5.out (HN.out 21 (by decide) (by decide) (by decide) (by decide) (by decide))).mono ?_
  rintro e wx ⟨rfl, rfl⟩
  go_wp2_with fail
  refine (growAttempt_no HB_5.out (HN.out 22 (by decide) (by decide) (by decide) (by decide) (by decide))).mono ?_
  rintro e wx ⟨rfl, rfl⟩
  go_wp2_with fail
  refine (growNumberRow_no HB_5.out (HN.out 23 (by decide) (by decide) (by decide) (by decide) (by decide))).mono ?_
  rintro e wx ⟨rfl, rfl⟩
  go_wp2_with fail
  refine (growOpRow_any KOpRow_5.out MOpRow_5.out LMOpRow.out HM2.out HB_5.out COpRow.out LOpRow.out).mono ?_
  rintro e w6 ⟨rfl, esOpRow2, hf⟩
  have SCellOpRow_6 := hidI (fun g hy hx => hf.sep (fun g hx hy => SCellOpRow_4.out g hy hx) (fun g hg => (KCell_5.out.from hg).2) g hx hy)
  have SOpOpRow_6 := hidI (fun g hy hx => hf.sep (fun g hx hy => SOpOpRow_5.out g hy hx) (fun g hg => (KOp_5.out.from hg).2) g hx hy)
  have KCell_6 := hidI (KCell_5.out.keep (fun g hg hlt => hf.chg.block g hlt (fun e => SCellOpRow_4.out g (hg) (e))))
  have MCell_6 := hidI (keepAllCell MCell_5.out (fun g hg hlt => hf.chg.block g hlt (fun e => SCellOpRow_4.out g (hg) (e))))
  have KOp_6 := hidI (KOp_5.out.keep (fun g hg hlt => hf.chg.block g hlt (fun e => SOpOpRow_5.out g (hg) (e))))
  have MOp_6 := hidI (keepAllOp MOp_5.out (fun g hg hlt => hf.chg.block g hlt (fun e => SOpOpRow_5.out g (hg) (e))))
  have HB_6 := hidI (chgblk hf.chg HB_5.out NKOpRow.out)
  have CH_6 := hidI (CH_5.out.then_ hf.chg (fun k _ hk => .inr (.inr (hk))))
  have HFOpRow := hidI hf
  clear hf
  have KOpRow_6 := hidI HFOpRow.out.kind
  have MOpRow_6 := hidI HFOpRow.out.all
  go_wp2_with fail
  refine (growStmtRow_no HB_6.out (HN.out 25 (by decide) (by decide) (by decide) (by decide) (by decide))).mono ?_
  rintro e wx ⟨rfl, rfl⟩
  go_wp2_with fail
  refine (growTxRow_no HB_6.out (HN.out 26 (by decide) (by decide) (by decide) (by decide) (by decide))).mono ?_
  rintro e wx ⟨rfl, rfl⟩
  go_wp2_with fail
  refine (growSeenRow_no HB_6.out (HN.out 27 (by decide) (by decide) (by decide) (by decide) (by decide))).mono ?_
  rintro e wx ⟨rfl, rfl⟩
  obtain ⟨wc, rfl⟩ : ∃ x, x = wx := ⟨_, rfl⟩
  go_wp2_with fail
  go_loopw [3] (fun i w' => ∃ k : Nat, k ≤ 8 ∧ i = .int .u64 (k : Int) ∧ w' = wc) (fun i _ => ((8 : Int) - intOf i).toNat)
  case atStart => exact ⟨0, by omega, rfl, rfl⟩
  case round =>
    obtain ⟨k, hk, rfl, hw⟩ := hrel
    rw [hw]
    clear hw
    by_cases hlt : k < 8
    · go_wp2_with fail
      refine (bits_no k HB_6.out (HN.out 1 (by decide) (by decide) (by decide) (by decide) (by decide))).mono ?_
      rintro e wx ⟨rfl, rfl⟩
      go_wp2_with fail
      exact ⟨⟨k + 1, by omega, by go_num, trivial⟩, by simp [intOf]; omega⟩
    · obtain rfl : k = 8 := by omega
      have HW_0 := hidI (Below.refl wc.heap.size wc)
      go_wp2_with fail
      refine (lookNumber_no HB_6.out (HN.out 2 (by decide) (by decide) (by decide) (by decide) (by decide))).mono ?_
      rintro e wx ⟨rfl, rfl⟩
      go_wp2_with fail
      refine (lookWide_no HB_6.out (HN.out 3 (by decide) (by decide) (by decide) (by decide) (by decide))).mono ?_
      rintro e wx ⟨rfl, rfl⟩
      go_wp2_with fail
      refine (lookText_no HB_6.out (HN.out 4 (by decide) (by decide) (by decide) (by decide) (by decide))).mono ?_
      rintro e wx ⟨rfl, rfl⟩
      go_wp2_with fail
      refine (lookCell_any KCell_6.out MCell_6.out HB_6.out CCell.out (by rw [HFCell.out.len]; exact LCell.out)).mono ?_
      rintro e wl1 ⟨rfl, hb3⟩
      have KOp_l1 := hidI (KOp_6.out.below hb3)
      have MOp_l1 := hidI (keepAllOp (hv := hvOp) MOp_6.out (fun g _ hl => hb3.block g hl))
      have KOpRow_l1 := hidI (KOpRow_6.out.below hb3)
      have MOpRow_l1 := hidI (keepAllOpRow (hv := hvOpRow) MOpRow_6.out (fun g _ hl => hb3.block g hl))
      have HB_l1 := hidI (blk hb3 HB_6.out)
      have CH_l1 := hidI (CH_6.out.then_ (Chg.of_below (S := fun _ => False) hb3) (fun _ _ q => q.elim))
      clear hb3
      go_wp2_with fail
      refine (lookIns_no HB_l1.out (HN.out 6 (by decide) (by decide) (by decide) (by decide) (by decide))).mono ?_
      rintro e wx ⟨rfl, rfl⟩
      go_wp2_with fail
      refine (lookOp_any KOp_l1.out MOp_l1.out HB_l1.out COp.out (by rw [HFOp.out.len]; exact LOp.out)).mono ?_
      rintro e wl2 ⟨rfl, hb3⟩
      have KOpRow_l2 := hidI (KOpRow_l1.out.below hb3)
      have MOpRow_l2 := hidI (keepAllOpRow (hv := hvOpRow) MOpRow_l1.out (fun g _ hl => hb3.block g hl))
      have HB_l2 := hidI (blk hb3 HB_l1.out)
      have CH_l2 := hidI (CH_l1.out.then_ (Chg.of_below (S := fun _ => False) hb3) (fun _ _ q => q.elim))
      clear hb3
      go_wp2_with fail
      refine (lookEvent_no HB_l2.out (HN.out 8 (by decide) (by decide) (by decide) (by decide) (by decide))).mono ?_
      rintro e wx ⟨rfl, rfl⟩
      go_wp2_with fail
      refine (lookPick_no HB_l2.out (HN.out 9 (by decide) (by decide) (by decide) (by decide) (by decide))).mono ?_
      rintro e wx ⟨rfl, rfl⟩
      go_wp2_with fail
      refine (lookPlace_no HB_l2.out (HN.out 10 (by decide) (by decide) (by decide) (by decide) (by decide))).mono ?_
      rintro e wx ⟨rfl, rfl⟩
      go_wp2_with fail
      refine (lookTxOp_no HB_l2.out (HN.out 11 (by decide) (by decide) (by decide) (by decide) (by decide))).mono ?_
      rintro e wx ⟨rfl, rfl⟩
      go_wp2_with fail
      refine (lookToken_no HB_l2.out (HN.out 12 (by decide) (by decide) (by decide) (by decide) (by decide))).mono ?_
      rintro e wx ⟨rfl, rfl⟩
      go_wp2_with fail
      refine (lookField_no HB_l2.out (HN.out 13 (by decide) (by decide) (by decide) (by decide) (by decide))).mono ?_
      rintro e wx ⟨rfl, rfl⟩
      go_wp2_with fail
      refine (lookSpot_no HB_l2.out (HN.out 14 (by decide) (by decide) (by decide) (by decide) (by decide))).mono ?_
      rintro e wx ⟨rfl, rfl⟩
      go_wp2_with fail
      refine (lookSeen_no HB_l2.out (HN.out 15 (by decide) (by decide) (by decide) (by decide) (by decide))).mono ?_
      rintro e wx ⟨rfl, rfl⟩
      go_wp2_with fail
      refine (lookExpr_no HB_l2.out (HN.out 16 (by decide) (by decide) (by decide) (by decide) (by decide))).mono ?_
      rintro e wx ⟨rfl, rfl⟩
      go_wp2_with fail
      refine (lookStmt_no HB_l2.out (HN.out 17 (by decide) (by decide) (by decide) (by decide) (by decide))).mono ?_
      rintro e wx ⟨rfl, rfl⟩
      go_wp2_with fail
      refine (lookRecord_no HB_l2.out (HN.out 18 (by decide) (by decide) (by decide) (by decide) (by decide))).mono ?_
      rintro e wx ⟨rfl, rfl⟩
      go_wp2_with fail
      refine (lookFunc_no HB_l2.out (HN.out 19 (by decide) (by decide) (by decide) (by decide) (by decide))).mono ?_
      rintro e wx ⟨rfl, rfl⟩
      go_wp2_with fail
      refine (lookBlock_no HB_l2.out (HN.out 20 (by decide) (by decide) (by decide) (by decide) (by decide))).mono ?_
      rintro e wx ⟨rfl, rfl⟩
      go_wp2_with fail
      refine (lookGraph_no HB_l2.out (HN.out 21 (by decide) (by decide) (by decide) (by decide) (by decide))).mono ?_
      rintro e wx ⟨rfl, rfl⟩
      go_wp2_with fail
      refine (lookAttempt_no HB_l2.out (HN.out 22 (by decide) (by decide) (by decide) (by decide) (by decide))).mono ?_
      rintro e wx ⟨rfl, rfl⟩
      go_wp2_with fail
      refine (lookNumberRow_no HB_l2.out (HN.out 23 (by decide) (by decide) (by decide) (by decide) (by decide))).mono ?_
      rintro e wx ⟨rfl, rfl⟩
      go_wp2_with fail
      refine (lookOpRow_any KOpRow_l2.out MOpRow_l2.out HB_l2.out COpRow.out (by rw [HFOpRow.out.len]; exact LOpRow.out)).mono ?_
      rintro e wl3 ⟨rfl, hb3⟩
      have HB_l3 := hidI (blk hb3 HB_l2.out)
      have CH_l3 := hidI (CH_l2.out.then_ (Chg.of_below (S := fun _ => False) hb3) (fun _ _ q => q.elim))
      clear hb3
      go_wp2_with fail
      refine (lookStmtRow_no HB_l3.out (HN.out 25 (by decide) (by decide) (by decide) (by decide) (by decide))).mono ?_
      rintro e wx ⟨rfl, rfl⟩
      go_wp2_with fail
      refine (lookTxRow_no HB_l3.out (HN.out 26 (by decide) (by decide) (by decide) (by decide) (by decide))).mono ?_
      rintro e wx ⟨rfl, rfl⟩
      go_wp2_with fail
      refine (lookSeenRow_no HB_l3.out (HN.out 27 (by decide) (by decide) (by decide) (by decide) (by decide))).mono ?_
      rintro e wx ⟨rfl, rfl⟩
      go_wp2_with fail
      go_ret
      exact ⟨rfl, CH_l3.out⟩
def zeroBook : Array Value := (.int .i64 0 :: List.replicate 27 (.slice none 0 0)).toArray
theorem zero_book (w : World) : (zeroValue 67).run Tryz.prog w = .ok (.agg zeroBook) w := by kernel_rfl
theorem zbook_size : zeroBook.size = 28 := by decide +kernel
theorem zbook_at (i : Nat) (h0 : 0 < i) (h : i < 28) : zeroBook[i]? = some (.slice none 0 0) := by
  unfold zeroBook
  obtain ⟨j, rfl⟩ : ∃ j, i = j + 1 := ⟨i - 1, by omega⟩
  rw [List.getElem?_toArray, List.getElem?_cons_succ, List.getElem?_replicate, if_pos (by omega)]
theorem zbook_0 : zeroBook[0]? = some (.int .i64 0) := by kernel_rfl
theorem book_setF {C : Array Value} {hv x : Value} {f : Nat} (hs : C.size = 28) (h0 : 0 < f) (hf : f < 28) : ((C.setIfInBounds f hv).setIfInBounds 0 x)[f]? = some hv := by
  rw [Array.getElem?_setIfInBounds_ne (by omega), Array.getElem?_setIfInBounds_self, if_pos (by omega)]
theorem book_set0 {C : Array Value} {hv x : Value} {f : Nat} (hs : C.size = 28) : ((C.setIfInBounds f hv).setIfInBounds 0 x)[0]? = some x := by
  rw [Array.getElem?_setIfInBounds_self, if_pos (by rw [Array.size_setIfInBounds]; omega)]
theorem book_setN {C : Array Value} {hv x : Value} {i f : Nat} (h0 : i ≠ 0) (hf : i ≠ f) : ((C.setIfInBounds f hv).setIfInBounds 0 x)[i]? = C[i]? := by
  rw [Array.getElem?_setIfInBounds_ne (by omega), Array.getElem?_setIfInBounds_ne (by omega)]
theorem snocGetImg {α : Type} {l : List α} {i : Nat} {y z : α} (h : (l ++ [y])[i]? = some z) : z = y ∨ l[i]? = some z := by
  rcases Nat.lt_or_ge i l.length with h1 | h1
  · rw [List.getElem?_append_left h1] at h; exact .inr h
  · rw [List.getElem?_append_right h1] at h
    have := (List.getElem?_eq_some_iff.1 h).1
    simp at this
    obtain rfl : i = l.length := by omega
    simp at h
    exact .inl h.symm
structure BkStImg (w : World) (base kb cnt : Nat) (O : Nat → Prop) (C : Array Value) (hCell : Value) (hOp : Value) (hOpRow : Value) (eCell : List EntCell) (eOp : List EntOp) (eOpRow : List EntOpRow) : Prop where
  blk : w.heap[kb]? = some (.cells C 67 (0, 0))
  csz : C.size = 28
  c0 : C[0]? = some (.int .i64 (cnt : Int))
  cCell : C[5]? = some hCell
  cOp : C[7]? = some hOp
  cOpRow : C[24]? = some hOpRow
  cno : (∀ i, 0 < i → i < 28 → i ≠ 5 → i ≠ 7 → i ≠ 24 → C[i]? = some (.slice none 0 0))
  kCell : KindCell w base kb hCell eCell
  nCell : eCell.length ≤ cnt
  lCell : (∀ (i : Nat) e, eCell[i]? = some e → e.len ≤ 4000000)
  oCell : (∀ g, ownsCell hCell eCell g → O g)
  kOp : KindOp w base kb hOp eOp
  nOp : eOp.length ≤ cnt
  lOp : (∀ (i : Nat) e, eOp[i]? = some e → e.len ≤ 4000000)
  oOp : (∀ g, ownsOp hOp eOp g → O g)
  kOpRow : KindOpRow w base kb hOpRow eOpRow
  nOpRow : eOpRow.length ≤ cnt
  lOpRow : (∀ (i : Nat) e, eOpRow[i]? = some e → e.len ≤ 4000000)
  oOpRow : (∀ g, ownsOpRow hOpRow eOpRow g → O g)
  sCellOp : (∀ g, ownsCell hCell eCell g → ¬ ownsOp hOp eOp g)
  sCellOpRow : (∀ g, ownsCell hCell eCell g → ¬ ownsOpRow hOpRow eOpRow g)
  sOpOpRow : (∀ g, ownsOp hOp eOp g → ¬ ownsOpRow hOpRow eOpRow g)
  cm : cnt ≤ 4000000
def BkImg (w : World) (base kb cnt : Nat) (O : Nat → Prop) : Prop := ∃ C hCell hOp hOpRow eCell eOp eOpRow, BkStImg w base kb cnt O C hCell hOp hOpRow eCell eOp eOpRow
theorem BkImg.nil {w : World} {base kb : Nat} {O : Nat → Prop} (h : w.heap[kb]? = some (.cells zeroBook 67 (0, 0))) : BkImg w base kb 0 O :=
  ⟨zeroBook, .slice none 0 0, .slice none 0 0, .slice none 0 0, [], [], [], h, zbook_size, zbook_0, zbook_at 5 (by decide) (by decide), zbook_at 7 (by decide) (by decide), zbook_at 24 (by decide) (by decide), fun i h0 h1 _ _ _ => zbook_at i h0 h1,
    nilCell _ _ _, by simp, fun i e he => by simp at he, fun g hg => by rcases hg with hg | ⟨i, e, he, hg⟩ <;> first | (simp [Value.ownBlock] at hg; done) | (simp at he; done),
    nilOp _ _ _, by simp, fun i e he => by simp at he, fun g hg => by rcases hg with hg | ⟨i, e, he, hg⟩ <;> first | (simp [Value.ownBlock] at hg; done) | (simp at he; done),
    nilOpRow _ _ _, by simp, fun i e he => by simp at he, fun g hg => by rcases hg with hg | ⟨i, e, he, hg⟩ <;> first | (simp [Value.ownBlock] at hg; done) | (simp at he; done),
    fun g hg _ => by rcases hg with hg | ⟨i, e, he, hg⟩ <;> first | (simp [Value.ownBlock] at hg; done) | (simp at he; done),
    fun g hg _ => by rcases hg with hg | ⟨i, e, he, hg⟩ <;> first | (simp [Value.ownBlock] at hg; done) | (simp at he; done),
    fun g hg _ => by rcases hg with hg | ⟨i, e, he, hg⟩ <;> first | (simp [Value.ownBlock] at hg; done) | (simp at he; done),
    by omega⟩
theorem BkImg.keep {w w' : World} {base kb cnt : Nat} {O : Nat → Prop} (h : BkImg w base kb cnt O) (hk : ∀ g, g = kb ∨ O g → g < w.heap.size → w'.heap[g]? = w.heap[g]?) : BkImg w' base kb cnt O := by
  obtain ⟨C, hCell, hOp, hOpRow, eCell, eOp, eOpRow, h⟩ := h
  exact ⟨C, hCell, hOp, hOpRow, eCell, eOp, eOpRow, (hk kb (.inl rfl) (lt_of_block h.blk)).trans h.blk, h.csz, h.c0, h.cCell, h.cOp, h.cOpRow, h.cno, h.kCell.keep (fun g hg hl => hk g (.inr (h.oCell g hg)) hl), h.nCell, h.lCell, h.oCell, h.kOp.keep (fun g hg hl => hk g (.inr (h.oOp g hg)) hl), h.nOp, h.lOp, h.oOp, h.kOpRow.keep (fun g hg hl => hk g (.inr (h.oOpRow g hg)) hl), h.nOpRow, h.lOpRow, h.oOpRow, h.sCellOp, h.sCellOpRow, h.sOpOpRow, h.cm⟩
theorem BkImg.below {w w' : World} {base kb cnt : Nat} {O : Nat → Prop} (h : BkImg w base kb cnt O) (hb : Below w.heap.size w w') : BkImg w' base kb cnt O := h.keep fun g _ hl => hb.block g hl
theorem bkImg_keepCell {w : World} {base kb cnt n lc : Nat} {O : Nat → Prop} {lo : Option Addr} {cs : List Value} (h : BkImg w base kb cnt O) (hc : cnt < 4000000) (hn : n ≤ 4000000) (hown : w.ownsRow base 103 2 (.slice lo n lc) n cs) (hfree : ∀ g, (Value.slice lo n lc).ownBlock = some g → ¬ O g ∧ g ≠ kb) (hbase : base ≤ w.heap.size) :
    Calls Tryz.prog 31 #[.pointer (some ⟨kb, 0, none⟩), .slice lo n lc] w fun r w' => r = .returned (.tuple #[]) ∧ BkImg w' base kb (cnt + 1) (fun g => O g ∨ w.heap.size ≤ g ∨ (Value.slice lo n lc).ownBlock = some g) ∧ Chg (fun k => k = kb ∨ O k) w w' := by
  obtain ⟨C, hCell, hOp, hOpRow, eCell, eOp, eOpRow, h⟩ := h
  refine (keepCell_any h.kCell h.blk h.cCell h.c0 (by omega) (by have := h.nCell; omega) hown (fun g hg => ⟨fun e => (hfree g hg).1 (h.oCell g (.inl e)), (hfree g hg).2⟩) (fun i g e he h1 h2 => (hfree g h2).1 (h.oCell g (.inr ⟨i, e, he, h1⟩))) hbase).mono ?_
  rintro r w' ⟨rfl, hv', hblk, hkind, hchg, hfrom⟩
  have hO : ∀ g, ownsCell hv' (eCell ++ [⟨.slice lo n lc, cnt, n⟩]) g → ownsCell hCell eCell g ∨ w.heap.size ≤ g ∨ (Value.slice lo n lc).ownBlock = some g := by
    rintro g (hg | ⟨i, e, he, hg⟩)
    · exact (hfrom g hg).imp (fun q => .inl q) (fun q => .inl q)
    · rcases snocGetImg he with rfl | he
      · exact .inr (.inr hg)
      · exact .inl (.inr ⟨i, e, he, hg⟩)
  have hlt : ∀ g, ownsCell hCell eCell g → g < w.heap.size := fun g hg => (h.kCell.from hg).2
  have hKOp := h.kOp.keep (w' := w') (fun g hg hl => hchg.block g hl (fun e => by
    rcases e with e | e
    · exact h.kOp.notkb (by rw [← e]; exact hg)
    · exact h.sCellOp g (.inl e) (hg)))
  have hKOpRow := h.kOpRow.keep (w' := w') (fun g hg hl => hchg.block g hl (fun e => by
    rcases e with e | e
    · exact h.kOpRow.notkb (by rw [← e]; exact hg)
    · exact h.sCellOpRow g (.inl e) (hg)))
  refine ⟨rfl, ⟨_, hv', hOp, hOpRow, _, eOp, eOpRow, hblk, by rw [Array.size_setIfInBounds, Array.size_setIfInBounds]; exact h.csz, ?_, book_setF h.csz (by decide) (by decide), by rw [book_setN (by decide) (by decide)]; exact h.cOp, by rw [book_setN (by decide) (by decide)]; exact h.cOpRow, fun i h0 h1 qCell qOp qOpRow => by rw [book_setN (by omega) qCell]; exact h.cno i h0 h1 qCell qOp qOpRow,
    hkind, by rw [List.length_append, List.length_singleton]; have := h.nCell; omega, fun i e he => by rcases snocGetImg he with rfl | he; exact hn; exact h.lCell i e he, fun g hg => (hO g hg).imp (h.oCell g) id,
    hKOp, by have := h.nOp; omega, h.lOp, fun g hg => .inl (h.oOp g hg),
    hKOpRow, by have := h.nOpRow; omega, h.lOpRow, fun g hg => .inl (h.oOpRow g hg),
    fun g hx hy => by rcases hO g hx with q | q | q; exact h.sCellOp g q hy; (have := (h.kOp.from hy).2; omega); exact (hfree g q).1 (h.oOp g hy),
    fun g hx hy => by rcases hO g hx with q | q | q; exact h.sCellOpRow g q hy; (have := (h.kOpRow.from hy).2; omega); exact (hfree g q).1 (h.oOpRow g hy),
    h.sOpOpRow,
    by omega⟩, ⟨hchg.os, hchg.tape, hchg.output, hchg.size, fun k hk hn => hchg.block k hk (fun e => hn (e.imp id (fun q => h.oCell k (.inl q))))⟩⟩
  rw [book_set0 h.csz]
  simp
theorem bkImg_keepOp {w : World} {base kb cnt n lc : Nat} {O : Nat → Prop} {lo : Option Addr} {cs : List Value} (h : BkImg w base kb cnt O) (hc : cnt < 4000000) (hn : n ≤ 4000000) (hown : w.ownsRow base 101 6 (.slice lo n lc) n cs) (hfree : ∀ g, (Value.slice lo n lc).ownBlock = some g → ¬ O g ∧ g ≠ kb) (hbase : base ≤ w.heap.size) :
    Calls Tryz.prog 29 #[.pointer (some ⟨kb, 0, none⟩), .slice lo n lc] w fun r w' => r = .returned (.tuple #[]) ∧ BkImg w' base kb (cnt + 1) (fun g => O g ∨ w.heap.size ≤ g ∨ (Value.slice lo n lc).ownBlock = some g) ∧ Chg (fun k => k = kb ∨ O k) w w' := by
  obtain ⟨C, hCell, hOp, hOpRow, eCell, eOp, eOpRow, h⟩ := h
  refine (keepOp_any h.kOp h.blk h.cOp h.c0 (by omega) (by have := h.nOp; omega) hown (fun g hg => ⟨fun e => (hfree g hg).1 (h.oOp g (.inl e)), (hfree g hg).2⟩) (fun i g e he h1 h2 => (hfree g h2).1 (h.oOp g (.inr ⟨i, e, he, h1⟩))) hbase).mono ?_
  rintro r w' ⟨rfl, hv', hblk, hkind, hchg, hfrom⟩
  have hO : ∀ g, ownsOp hv' (eOp ++ [⟨.slice lo n lc, cnt, n⟩]) g → ownsOp hOp eOp g ∨ w.heap.size ≤ g ∨ (Value.slice lo n lc).ownBlock = some g := by
    rintro g (hg | ⟨i, e, he, hg⟩)
    · exact (hfrom g hg).imp (fun q => .inl q) (fun q => .inl q)
    · rcases snocGetImg he with rfl | he
      · exact .inr (.inr hg)
      · exact .inl (.inr ⟨i, e, he, hg⟩)
  have hlt : ∀ g, ownsOp hOp eOp g → g < w.heap.size := fun g hg => (h.kOp.from hg).2
  have hKCell := h.kCell.keep (w' := w') (fun g hg hl => hchg.block g hl (fun e => by
    rcases e with e | e
    · exact h.kCell.notkb (by rw [← e]; exact hg)
    · exact h.sCellOp g (hg) (.inl e)))
  have hKOpRow := h.kOpRow.keep (w' := w') (fun g hg hl => hchg.block g hl (fun e => by
    rcases e with e | e
    · exact h.kOpRow.notkb (by rw [← e]; exact hg)
    · exact h.sOpOpRow g (.inl e) (hg)))
  refine ⟨rfl, ⟨_, hCell, hv', hOpRow, eCell, _, eOpRow, hblk, by rw [Array.size_setIfInBounds, Array.size_setIfInBounds]; exact h.csz, ?_, by rw [book_setN (by decide) (by decide)]; exact h.cCell, book_setF h.csz (by decide) (by decide), by rw [book_setN (by decide) (by decide)]; exact h.cOpRow, fun i h0 h1 qCell qOp qOpRow => by rw [book_setN (by omega) qOp]; exact h.cno i h0 h1 qCell qOp qOpRow,
    hKCell, by have := h.nCell; omega, h.lCell, fun g hg => .inl (h.oCell g hg),
    hkind, by rw [List.length_append, List.length_singleton]; have := h.nOp; omega, fun i e he => by rcases snocGetImg he with rfl | he; exact hn; exact h.lOp i e he, fun g hg => (hO g hg).imp (h.oOp g) id,
    hKOpRow, by have := h.nOpRow; omega, h.lOpRow, fun g hg => .inl (h.oOpRow g hg),
    fun g hy hx => by rcases hO g hx with q | q | q; exact h.sCellOp g hy q; (have := (h.kCell.from hy).2; omega); exact (hfree g q).1 (h.oCell g hy),
    h.sCellOpRow,
    fun g hx hy => by rcases hO g hx with q | q | q; exact h.sOpOpRow g q hy; (have := (h.kOpRow.from hy).2; omega); exact (hfree g q).1 (h.oOpRow g hy),
    by omega⟩, ⟨hchg.os, hchg.tape, hchg.output, hchg.size, fun k hk hn => hchg.block k hk (fun e => hn (e.imp id (fun q => h.oOp k (.inl q))))⟩⟩
  rw [book_set0 h.csz]
  simp
theorem bkImg_keepOpRow {w : World} {base kb cnt n lc : Nat} {O : Nat → Prop} {lo : Option Addr} {cs : List Value} (h : BkImg w base kb cnt O) (hc : cnt < 4000000) (hn : n ≤ 4000000) (hown : w.ownsRow base 79 1 (.slice lo n lc) n cs) (hfree : ∀ g, (Value.slice lo n lc).ownBlock = some g → ¬ O g ∧ g ≠ kb) (hbase : base ≤ w.heap.size) :
    Calls Tryz.prog 30 #[.pointer (some ⟨kb, 0, none⟩), .slice lo n lc] w fun r w' => r = .returned (.tuple #[]) ∧ BkImg w' base kb (cnt + 1) (fun g => O g ∨ w.heap.size ≤ g ∨ (Value.slice lo n lc).ownBlock = some g) ∧ Chg (fun k => k = kb ∨ O k) w w' := by
  obtain ⟨C, hCell, hOp, hOpRow, eCell, eOp, eOpRow, h⟩ := h
  refine (keepOpRow_any h.kOpRow h.blk h.cOpRow h.c0 (by omega) (by have := h.nOpRow; omega) hown (fun g hg => ⟨fun e => (hfree g hg).1 (h.oOpRow g (.inl e)), (hfree g hg).2⟩) (fun i g e he h1 h2 => (hfree g h2).1 (h.oOpRow g (.inr ⟨i, e, he, h1⟩))) hbase).mono ?_
  rintro r w' ⟨rfl, hv', hblk, hkind, hchg, hfrom⟩
  have hO : ∀ g, ownsOpRow hv' (eOpRow ++ [⟨.slice lo n lc, cnt, n⟩]) g → ownsOpRow hOpRow eOpRow g ∨ w.heap.size ≤ g ∨ (Value.slice lo n lc).ownBlock = some g := by
    rintro g (hg | ⟨i, e, he, hg⟩)
    · exact (hfrom g hg).imp (fun q => .inl q) (fun q => .inl q)
    · rcases snocGetImg he with rfl | he
      · exact .inr (.inr hg)
      · exact .inl (.inr ⟨i, e, he, hg⟩)
  have hlt : ∀ g, ownsOpRow hOpRow eOpRow g → g < w.heap.size := fun g hg => (h.kOpRow.from hg).2
  have hKCell := h.kCell.keep (w' := w') (fun g hg hl => hchg.block g hl (fun e => by
    rcases e with e | e
    · exact h.kCell.notkb (by rw [← e]; exact hg)
    · exact h.sCellOpRow g (hg) (.inl e)))
  have hKOp := h.kOp.keep (w' := w') (fun g hg hl => hchg.block g hl (fun e => by
    rcases e with e | e
    · exact h.kOp.notkb (by rw [← e]; exact hg)
    · exact h.sOpOpRow g (hg) (.inl e)))
  refine ⟨rfl, ⟨_, hCell, hOp, hv', eCell, eOp, _, hblk, by rw [Array.size_setIfInBounds, Array.size_setIfInBounds]; exact h.csz, ?_, by rw [book_setN (by decide) (by decide)]; exact h.cCell, by rw [book_setN (by decide) (by decide)]; exact h.cOp, book_setF h.csz (by decide) (by decide), fun i h0 h1 qCell qOp qOpRow => by rw [book_setN (by omega) qOpRow]; exact h.cno i h0 h1 qCell qOp qOpRow,
    hKCell, by have := h.nCell; omega, h.lCell, fun g hg => .inl (h.oCell g hg),
    hKOp, by have := h.nOp; omega, h.lOp, fun g hg => .inl (h.oOp g hg),
    hkind, by rw [List.length_append, List.length_singleton]; have := h.nOpRow; omega, fun i e he => by rcases snocGetImg he with rfl | he; exact hn; exact h.lOpRow i e he, fun g hg => (hO g hg).imp (h.oOpRow g) id,
    h.sCellOp,
    fun g hy hx => by rcases hO g hx with q | q | q; exact h.sCellOpRow g hy q; (have := (h.kCell.from hy).2; omega); exact (hfree g q).1 (h.oCell g hy),
    fun g hy hx => by rcases hO g hx with q | q | q; exact h.sOpOpRow g hy q; (have := (h.kOp.from hy).2; omega); exact (hfree g q).1 (h.oOp g hy),
    by omega⟩, ⟨hchg.os, hchg.tape, hchg.output, hchg.size, fun k hk hn => hchg.block k hk (fun e => hn (e.imp id (fun q => h.oOpRow k (.inl q))))⟩⟩
  rw [book_set0 h.csz]
  simp
theorem bkImg_apart {w : World} {base kb cnt : Nat} {O : Nat → Prop} (h : BkImg w base kb cnt O) : Calls Tryz.prog 15 #[.pointer (some ⟨kb, 0, none⟩)] w fun r w' => r = .returned (.bool true) ∧ Chg O w w' := by
  obtain ⟨C, hCell, hOp, hOpRow, eCell, eOp, eOpRow, h⟩ := h
  have hcm := h.cm
  refine (apartImg_any (M := 4000000) h.kCell h.lCell h.cCell (by have := h.nCell; omega) h.kOp h.lOp h.cOp (by have := h.nOp; omega) h.kOpRow h.lOpRow h.cOpRow (by have := h.nOpRow; omega) h.sCellOp h.sCellOpRow h.sOpOpRow (by decide) h.blk h.cno).mono ?_
  rintro r w' ⟨rfl, hc⟩
  exact ⟨rfl, ⟨hc.os, hc.tape, hc.output, hc.size, fun k hk hn => hc.block k hk (fun e => hn (by
    rcases e with e | e | e
    · exact h.oCell k e
    · exact h.oOp k e
    · exact h.oOpRow k e))⟩⟩
end Go.Proofs.YtgodmogkhgilmaaGreatDoor

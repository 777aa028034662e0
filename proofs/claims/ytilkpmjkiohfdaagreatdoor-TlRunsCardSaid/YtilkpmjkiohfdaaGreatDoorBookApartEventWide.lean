/- turnstilelaw01.Book: Apart over a book that has lists of these kinds alone: Wide, Event. (Written by mkapartn.py.) -/
import Derived.Test.YtilkpmjkiohfdaaGreatDoorBookWide
import Derived.Test.YtilkpmjkiohfdaaGreatDoorBookEvent
namespace Go.Proofs.YtilkpmjkiohfdaaGreatDoor
open Go.RowKit
set_option linter.unusedVariables false
set_option linter.unusedSimpArgs false

set_option maxRecDepth 100000 in
set_option maxHeartbeats 16000000 in
theorem apartEventWide_any {w : World} {base kb M : Nat} {C : Array Value} {hvWide : Value} {esWide : List EntWide} {hvEvent : Value} {esEvent : List EntEvent}
    (hWide : KindWide w base kb hvWide esWide) (mWide : ∀ (i : Nat) e, esWide[i]? = some e → e.len ≤ M) (cWide : C[3]? = some hvWide) (lWide : esWide.length ≤ 1000000)
    (hEvent : KindEvent w base kb hvEvent esEvent) (mEvent : ∀ (i : Nat) e, esEvent[i]? = some e → e.len ≤ M) (cEvent : C[8]? = some hvEvent) (lEvent : esEvent.length ≤ 1000000)
    (sWideEvent : ∀ g, ownsWide hvWide esWide g → ¬ ownsEvent hvEvent esEvent g)
    (hM2 : M ≤ 1000000) (hb : w.heap[kb]? = some (.cells C 60 (0, 0))) (hno : ∀ i, 0 < i → i < 28 → i ≠ 3 → i ≠ 8 → C[i]? = some (.slice none 0 0)) :
    Calls Tryz.prog 13 #[.pointer (some ⟨kb, 0, none⟩)] w fun r w' => r = .returned (.bool true) ∧ Chg (fun k => ownsWide hvWide esWide k ∨ ownsEvent hvEvent esEvent k) w w' := by
  have HM2 := hidI hM2
  have HN := hidI hno
  have HB := hidI hb
  have CH := hidI (Chg.refl (fun k => ownsWide hvWide esWide k ∨ ownsEvent hvEvent esEvent k) w)
  have KWide := hidI hWide
  have LMWide := hidI mWide
  have CWide := hidI cWide
  have LWide := hidI lWide
  have NKWide := hidI hWide.notkb
  have KEvent := hidI hEvent
  have LMEvent := hidI mEvent
  have CEvent := hidI cEvent
  have LEvent := hidI lEvent
  have NKEvent := hidI hEvent.notkb
  have SWideEvent := hidI sWideEvent
  clear hM2 hb hno hWide mWide cWide lWide hEvent mEvent cEvent lEvent sWideEvent
  go_enter Tryz.func13, Tryz.ntmps13
  go_wp2_with fail
  refine (fillNumber_no HB.out (HN.out 2 (by decide) (by decide) (by decide) (by decide))).mono ?_
  rintro e wx ⟨rfl, rfl⟩
  go_wp2_with fail
  refine (fillWide_any KWide.out HB.out CWide.out LWide.out).mono ?_
  rintro e w1 ⟨rfl, hk, hm, hc⟩
  have KEvent_1 := hidI (KEvent.out.keep (fun g hg hlt => hc.block g hlt (fun e => SWideEvent.out g (e) (hg))))
  have HB_1 := hidI (chgblk hc HB.out NKWide.out)
  have CH_1 := hidI (CH.out.then_ hc (fun k _ hk => .inl (hk)))
  have KWide_1 := hidI hk
  have MWide_1 := hidI hm
  clear hk hm hc
  go_wp2_with fail
  refine (fillText_no HB_1.out (HN.out 4 (by decide) (by decide) (by decide) (by decide))).mono ?_
  rintro e wx ⟨rfl, rfl⟩
  go_wp2_with fail
  refine (fillCell_no HB_1.out (HN.out 5 (by decide) (by decide) (by decide) (by decide))).mono ?_
  rintro e wx ⟨rfl, rfl⟩
  go_wp2_with fail
  refine (fillIns_no HB_1.out (HN.out 6 (by decide) (by decide) (by decide) (by decide))).mono ?_
  rintro e wx ⟨rfl, rfl⟩
  go_wp2_with fail
  refine (fillOp_no HB_1.out (HN.out 7 (by decide) (by decide) (by decide) (by decide))).mono ?_
  rintro e wx ⟨rfl, rfl⟩
  go_wp2_with fail
  refine (fillEvent_any KEvent_1.out HB_1.out CEvent.out LEvent.out).mono ?_
  rintro e w2 ⟨rfl, hk, hm, hc⟩
  have KWide_2 := hidI (KWide_1.out.keep (fun g hg hlt => hc.block g hlt (fun e => SWideEvent.out g (hg) (e))))
  have MWide_2 := hidI (keepAllWide MWide_1.out (fun g hg hlt => hc.block g hlt (fun e => SWideEvent.out g (hg) (e))))
  have HB_2 := hidI (chgblk hc HB_1.out NKEvent.out)
  have CH_2 := hidI (CH_1.out.then_ hc (fun k _ hk => .inr (hk)))
  have KEvent_2 := hidI hk
  have MEvent_2 := hidI hm
  clear hk hm hc
  go_wp2_with fail
  refine (fillPick_no HB_2.out (HN.out 9 (by decide) (by decide) (by decide) (by decide))).mono ?_
  rintro e wx ⟨rfl, rfl⟩
  go_wp2_with fail
  refine (fillPlace_no HB_2.out (HN.out 10 (by decide) (by decide) (by decide) (by decide))).mono ?_
  rintro e wx ⟨rfl, rfl⟩
  go_wp2_with fail
  refine (fillTxOp_no HB_2.out (HN.out 11 (by decide) (by decide) (by decide) (by decide))).mono ?_
  rintro e wx ⟨rfl, rfl⟩
  go_wp2_with fail
  refine (fillToken_no HB_2.out (HN.out 12 (by decide) (by decide) (by decide) (by decide))).mono ?_
  rintro e wx ⟨rfl, rfl⟩
  go_wp2_with fail
  refine (fillField_no HB_2.out (HN.out 13 (by decide) (by decide) (by decide) (by decide))).mono ?_
  rintro e wx ⟨rfl, rfl⟩
  go_wp2_with fail
  refine (fillSpot_no HB_2.out (HN.out 14 (by decide) (by decide) (by decide) (by decide))).mono ?_
  rintro e wx ⟨rfl, rfl⟩
  go_wp2_with fail
  refine (fillSeen_no HB_2.out (HN.out 15 (by decide) (by decide) (by decide) (by decide))).mono ?_
  rintro e wx ⟨rfl, rfl⟩
  go_wp2_with fail
  refine (fillExpr_no HB_2.out (HN.out 16 (by decide) (by decide) (by decide) (by decide))).mono ?_
  rintro e wx ⟨rfl, rfl⟩
  go_wp2_with fail
  refine (fillStmt_no HB_2.out (HN.out 17 (by decide) (by decide) (by decide) (by decide))).mono ?_
  rintro e wx ⟨rfl, rfl⟩
  go_wp2_with fail
  refine (fillRecord_no HB_2.out (HN.out 18 (by decide) (by decide) (by decide) (by decide))).mono ?_
  rintro e wx ⟨rfl, rfl⟩
  go_wp2_with fail
  refine (fillFunc_no HB_2.out (HN.out 19 (by decide) (by decide) (by decide) (by decide))).mono ?_
  rintro e wx ⟨rfl, rfl⟩
  go_wp2_with fail
  refine (fillBlock_no HB_2.out (HN.out 20 (by decide) (by decide) (by decide) (by decide))).mono ?_
  rintro e wx ⟨rfl, rfl⟩
  go_wp2_with fail
  refine (fillGraph_no HB_2.out (HN.out 21 (by decide) (by decide) (by decide) (by decide))).mono ?_
  rintro e wx ⟨rfl, rfl⟩
  go_wp2_with fail
  refine (fillAttempt_no HB_2.out (HN.out 22 (by decide) (by decide) (by decide) (by decide))).mono ?_
  rintro e wx ⟨rfl, rfl⟩
  go_wp2_with fail
  refine (fillNumberRow_no HB_2.out (HN.out 23 (by decide) (by decide) (by decide) (by decide))).mono ?_
  rintro e wx ⟨rfl, rfl⟩
  go_wp2_with fail
  refine (fillOpRow_no HB_2.out (HN.out 24 (by decide) (by decide) (by decide) (by decide))).mono ?_
  rintro e wx ⟨rfl, rfl⟩
  go_wp2_with fail
  refine (fillStmtRow_no HB_2.out (HN.out 25 (by decide) (by decide) (by decide) (by decide))).mono ?_
  rintro e wx ⟨rfl, rfl⟩
  go_wp2_with fail
  refine (fillTxRow_no HB_2.out (HN.out 26 (by decide) (by decide) (by decide) (by decide))).mono ?_
  rintro e wx ⟨rfl, rfl⟩
  go_wp2_with fail
  refine (fillSeenRow_no HB_2.out (HN.out 27 (by decide) (by decide) (by decide) (by decide))).mono ?_
  rintro e wx ⟨rfl, rfl⟩
  go_wp2_with fail
  refine (growNumber_no HB_2.out (HN.out 2 (by decide) (by decide) (by decide) (by decide))).mono ?_
  rintro e wx ⟨rfl, rfl⟩
  go_wp2_with fail
  refine (growWide_any KWide_2.out MWide_2.out LMWide.out HM2.out HB_2.out CWide.out LWide.out).mono ?_
  rintro e w3 ⟨rfl, esWide2, hf⟩
  have SWideEvent_3 := hidI (hf.sep SWideEvent.out (fun g hg => (KEvent_2.out.from hg).2))
  have KEvent_3 := hidI (KEvent_2.out.keep (fun g hg hlt => hf.chg.block g hlt (fun e => SWideEvent.out g (e) (hg))))
  have MEvent_3 := hidI (keepAllEvent MEvent_2.out (fun g hg hlt => hf.chg.block g hlt (fun e => SWideEvent.out g (e) (hg))))
  have HB_3 := hidI (chgblk hf.chg HB_2.out NKWide.out)
  have CH_3 := hidI (CH_2.out.then_ hf.chg (fun k _ hk => .inl (hk)))
  have HFWide := hidI hf
  clear hf
  have KWide_3 := hidI HFWide.out.kind
  have MWide_3 := hidI HFWide.out.all
  go_wp2_with fail
  refine (growText_no HB_3.out (HN.out 4 (by decide) (by decide) (by decide) (by decide))).mono ?_
  rintro e wx ⟨rfl, rfl⟩
  go_wp2_with fail
  refine (growCell_no HB_3.out (HN.out 5 (by decide) (by decide) (by decide) (by decide))).mono ?_
  rintro e wx ⟨rfl, rfl⟩
  go_wp2_with fail
  refine (growIns_no HB_3.out (HN.out 6 (by decide) (by decide) (by decide) (by decide))).mono ?_
  rintro e wx ⟨rfl, rfl⟩
  go_wp2_with fail
  refine (growOp_no HB_3.out (HN.out 7 (by decide) (by decide) (by decide) (by decide))).mono ?_
  rintro e wx ⟨rfl, rfl⟩
  go_wp2_with fail
  refine (growEvent_any KEvent_3.out MEvent_3.out LMEvent.out HM2.out HB_3.out CEvent.out LEvent.out).mono ?_
  rintro e w4 ⟨rfl, esEvent2, hf⟩
  have SWideEvent_4 := hidI (fun g hy hx => hf.sep (fun g hx hy => SWideEvent_3.out g hy hx) (fun g hg => (KWide_3.out.from hg).2) g hx hy)
  have KWide_4 := hidI (KWide_3.out.keep (fun g hg hlt => hf.chg.block g hlt (fun e => SWideEvent_3.out g (hg) (e))))
  have MWide_4 := hidI (keepAllWide MWide_3.out (fun g hg hlt => hf.chg.block g hlt (fun e => SWideEvent_3.out g (hg) (e))))
  have HB_4 := hidI (chgblk hf.chg HB_3.out NKEvent.out)
  have CH_4 := hidI (CH_3.out.then_ hf.chg (fun k _ hk => .inr (hk)))
  have HFEvent := hidI hf
  clear hf
  have KEvent_4 := hidI HFEvent.out.kind
  have MEvent_4 := hidI HFEvent.out.all
  go_wp2_with fail
  refine (growPick_no HB_4.out (HN.out 9 (by decide) (by decide) (by decide) (by decide))).mono ?_
  rintro e wx ⟨rfl, rfl⟩
  go_wp2_with fail
  refine (growPlace_no HB_4.out (HN.out 10 (by decide) (by decide) (by decide) (by decide))).mono ?_
  rintro e wx ⟨rfl, rfl⟩
  go_wp2_with fail
  refine (growTxOp_no HB_4.out (HN.out 11 (by decide) (by decide) (by decide) (by decide))).mono ?_
  rintro e wx ⟨rfl, rfl⟩
  go_wp2_with fail
  refine (growToken_no HB_4.out (HN.out 12 (by decide) (by decide) (by decide) (by decide))).mono ?_
  rintro e wx ⟨rfl, rfl⟩
  go_wp2_with fail
  refine (growField_no HB_4.out (HN.out 13 (by decide) (by decide) (by decide) (by decide))).mono ?_
  rintro e wx ⟨rfl, rfl⟩
  go_wp2_with fail
  refine (growSpot_no HB_4.out (HN.out 14 (by decide) (by decide) (by decide) (by decide))).mono ?_
  rintro e wx ⟨rfl, rfl⟩
  go_wp2_with fail
  refine (growSeen_no HB_4.out (HN.out 15 (by decide) (by decide) (by decide) (by decide))).mono ?_
  rintro e wx ⟨rfl, rfl⟩
  go_wp2_with fail
  refine (growExpr_no HB_4.out (HN.out 16 (by decide) (by decide) (by decide) (by decide))).mono ?_
  rintro e wx ⟨rfl, rfl⟩
  go_wp2_with fail
  refine (growStmt_no HB_4.out (HN.out 17 (by decide) (by decide) (by decide) (by decide))).mono ?_
  rintro e wx ⟨rfl, rfl⟩
  go_wp2_with fail
  refine (growRecord_no HB_4.out (HN.out 18 (by decide) (by decide) (by decide) (by decide))).mono ?_
  rintro e wx ⟨rfl, rfl⟩
  go_wp2_with fail
  refine (growFunc_no HB_4.out (HN.out 19 (by decide) (by decide) (by decide) (by decide))).mono ?_
  rintro e wx ⟨rfl, rfl⟩
  go_wp2_with fail
  refine (growBlock_no HB_4.out (HN.out 20 (by decide) (by decide) (by decide) (by decide))).mono ?_
  rintro e wx ⟨rfl, rfl⟩
  go_wp2_with fail
  refine (growGraph_no HB_4.out (HN.out 21 (by decide) (by decide) (by decide) (by decide))).mono ?_
  rintro e wx ⟨rfl, rfl⟩
  go_wp2_with fail
  refine (growAttempt_no HB_4.out (HN.out 22 (by decide) (by decide) (by decide) (by decide))).mono ?_
  rintro e wx ⟨rfl, rfl⟩
  go_wp2_with fail
  refine (growNumberRow_no HB_4.out (HN.out 23 (by decide) (by decide) (by decide) (by decide))).mono ?_
  rintro e wx ⟨rfl, rfl⟩
  go_wp2_with fail
  refine (growOpRow_no HB_4.out (HN.out 24 (by decide) (by decide) (by decide) (by decide))).mono ?_
  rintro e wx ⟨rfl, rfl⟩
  go_wp2_with fail
  refine (growStmtRow_no HB_4.out (HN.out 25 (by decide) (by decide) (by decide) (by decide))).mono ?_
  rintro e wx ⟨rfl, rfl⟩
  go_wp2_with fail
  refine (growTxRow_no HB_4.out (HN.out 26 (by decide) (by decide) (by decide) (by decide))).mono ?_
  rintro e wx ⟨rfl, rfl⟩
  go_wp2_with fail
  refine (growSeenRow_no HB_4.out (HN.out 27 (by decide) (by decide) (by decide) (by decide))).mono ?_
  rintro e wx ⟨rfl, rfl⟩
  obtain ⟨wc, rfl⟩ : ∃ x, x = wx := ⟨_, rfl⟩
  go_wp2_with fail
  go_loopw [3] (fun i w' => ∃ k : Nat, k ≤ 8 ∧ i = .int .u64 (k : Int) ∧ w' = wc) (fun i _ => ((8 : Int) - intOf i).toNat)
  case atStart => exact ⟨0, by omega, rfl, rfl⟩
  case round =>
    obtain ⟨k, hk, rfl, hw⟩ := hrel
    rw [hw]
    clear hw
    by_cases hlt : k < 8
    · go_wp2_with fail
      refine (bits_no k HB_4.out (HN.out 1 (by decide) (by decide) (by decide) (by decide))).mono ?_
      rintro e wx ⟨rfl, rfl⟩
      go_wp2_with fail
      exact ⟨⟨k + 1, by omega, by go_num, trivial⟩, by simp [intOf]; omega⟩
    · obtain rfl : k = 8 := by omega
      have HW_0 := hidI (Below.refl wc.heap.size wc)
      go_wp2_with fail
      refine (lookNumber_no HB_4.out (HN.out 2 (by decide) (by decide) (by decide) (by decide))).mono ?_
      rintro e wx ⟨rfl, rfl⟩
      go_wp2_with fail
      refine (lookWide_any KWide_4.out MWide_4.out HB_4.out CWide.out (by rw [HFWide.out.len]; exact LWide.out)).mono ?_
      rintro e wl1 ⟨rfl, hb3⟩
      have KEvent_l1 := hidI (KEvent_4.out.below hb3)
      have MEvent_l1 := hidI (keepAllEvent (hv := hvEvent) MEvent_4.out (fun g _ hl => hb3.block g hl))
      have HB_l1 := hidI (blk hb3 HB_4.out)
      have CH_l1 := hidI (CH_4.out.then_ (Chg.of_below (S := fun _ => False) hb3) (fun _ _ q => q.elim))
      clear hb3
      go_wp2_with fail
      refine (lookText_no HB_l1.out (HN.out 4 (by decide) (by decide) (by decide) (by decide))).mono ?_
      rintro e wx ⟨rfl, rfl⟩
      go_wp2_with fail
      refine (lookCell_no HB_l1.out (HN.out 5 (by decide) (by decide) (by decide) (by decide))).mono ?_
      rintro e wx ⟨rfl, rfl⟩
      go_wp2_with fail
      refine (lookIns_no HB_l1.out (HN.out 6 (by decide) (by decide) (by decide) (by decide))).mono ?_
      rintro e wx ⟨rfl, rfl⟩
      go_wp2_with fail
      refine (lookOp_no HB_l1.out (HN.out 7 (by decide) (by decide) (by decide) (by decide))).mono ?_
      rintro e wx ⟨rfl, rfl⟩
      go_wp2_with fail
      refine (lookEvent_any KEvent_l1.out MEvent_l1.out HB_l1.out CEvent.out (by rw [HFEvent.out.len]; exact LEvent.out)).mono ?_
      rintro e wl2 ⟨rfl, hb3⟩
      have HB_l2 := hidI (blk hb3 HB_l1.out)
      have CH_l2 := hidI (CH_l1.out.then_ (Chg.of_below (S := fun _ => False) hb3) (fun _ _ q => q.elim))
      clear hb3
      go_wp2_with fail
      refine (lookPick_no HB_l2.out (HN.out 9 (by decide) (by decide) (by decide) (by decide))).mono ?_
      rintro e wx ⟨rfl, rfl⟩
      go_wp2_with fail
      refine (lookPlace_no HB_l2.out (HN.out 10 (by decide) (by decide) (by decide) (by decide))).mono ?_
      rintro e wx ⟨rfl, rfl⟩
      go_wp2_with fail
      refine (lookTxOp_no HB_l2.out (HN.out 11 (by decide) (by decide) (by decide) (by decide))).mono ?_
      rintro e wx ⟨rfl, rfl⟩
      go_wp2_with fail
      refine (lookToken_no HB_l2.out (HN.out 12 (by decide) (by decide) (by decide) (by decide))).mono ?_
      rintro e wx ⟨rfl, rfl⟩
      go_wp2_with fail
      refine (lookField_no HB_l2.out (HN.out 13 (by decide) (by decide) (by decide) (by decide))).mono ?_
      rintro e wx ⟨rfl, rfl⟩
      go_wp2_with fail
      refine (lookSpot_no HB_l2.out (HN.out 14 (by decide) (by decide) (by decide) (by decide))).mono ?_
      rintro e wx ⟨rfl, rfl⟩
      go_wp2_with fail
      refine (lookSeen_no HB_l2.out (HN.out 15 (by decide) (by decide) (by decide) (by decide))).mono ?_
      rintro e wx ⟨rfl, rfl⟩
      go_wp2_with fail
      refine (lookExpr_no HB_l2.out (HN.out 16 (by decide) (by decide) (by decide) (by decide))).mono ?_
      rintro e wx ⟨rfl, rfl⟩
      go_wp2_with fail
      refine (lookStmt_no HB_l2.out (HN.out 17 (by decide) (by decide) (by decide) (by decide))).mono ?_
      rintro e wx ⟨rfl, rfl⟩
      go_wp2_with fail
      refine (lookRecord_no HB_l2.out (HN.out 18 (by decide) (by decide) (by decide) (by decide))).mono ?_
      rintro e wx ⟨rfl, rfl⟩
      go_wp2_with fail
      refine (lookFunc_no HB_l2.out (HN.out 19 (by decide) (by decide) (by decide) (by decide))).mono ?_
      rintro e wx ⟨rfl, rfl⟩
      go_wp2_with fail
      refine (lookBlock_no HB_l2.out (HN.out 20 (by decide) (by decide) (by decide) (by decide))).mono ?_
      rintro e wx ⟨rfl, rfl⟩
      go_wp2_with fail
      refine (lookGraph_no HB_l2.out (HN.out 21 (by decide) (by decide) (by decide) (by decide))).mono ?_
      rintro e wx ⟨rfl, rfl⟩
      go_wp2_with fail
      refine (lookAttempt_no HB_l2.out (HN.out 22 (by decide) (by decide) (by decide) (by decide))).mono ?_
      rintro e wx ⟨rfl, rfl⟩
      go_wp2_with fail
      refine (lookNumberRow_no HB_l2.out (HN.out 23 (by decide) (by decide) (by decide) (by decide))).mono ?_
      rintro e wx ⟨rfl, rfl⟩
      go_wp2_with fail
      refine (lookOpRow_no HB_l2.out (HN.out 24 (by decide) (by decide) (by decide) (by decide))).mono ?_
      rintro e wx ⟨rfl, rfl⟩
      go_wp2_with fail
      refine (lookStmtRow_no HB_l2.out (HN.out 25 (by decide) (by decide) (by decide) (by decide))).mono ?_
      rintro e wx ⟨rfl, rfl⟩
      go_wp2_with fail
      refine (lookTxRow_no HB_l2.out (HN.out 26 (by decide) (by decide) (by decide) (by decide))).mono ?_
      rintro e wx ⟨rfl, rfl⟩
      go_wp2_with fail
      refine (lookSeenRow_no HB_l2.out (HN.out 27 (by decide) (by decide) (by decide) (by decide))).mono ?_
      rintro e wx ⟨rfl, rfl⟩
      go_wp2_with fail
      go_ret
      exact ⟨rfl, CH_l2.out⟩

end Go.Proofs.YtilkpmjkiohfdaaGreatDoor

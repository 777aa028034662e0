/- turnstilelaw01.Book: Apart over a book that has lists of these kinds alone: Number, Event, Attempt. (Written by mkapartn.py.) -/
import Derived.Test.YtilkpmjkiohfdaaGreatDoorBookNumber
import Derived.Test.YtilkpmjkiohfdaaGreatDoorBookEvent
import Derived.Test.YtilkpmjkiohfdaaGreatDoorBookAttempt
namespace Go.Proofs.YtilkpmjkiohfdaaGreatDoor
open Go.RowKit
set_option linter.unusedVariables false
set_option linter.unusedSimpArgs false

set_option maxRecDepth 100000 in
set_option maxHeartbeats 16000000 in
theorem apartTell_any {w : World} {base kb M : Nat} {C : Array Value} {hvNumber : Value} {esNumber : List EntNumber} {hvEvent : Value} {esEvent : List EntEvent} {hvAttempt : Value} {esAttempt : List EntAttempt}
    (hNumber : KindNumber w base kb hvNumber esNumber) (mNumber : ∀ (i : Nat) e, esNumber[i]? = some e → e.len ≤ M) (cNumber : C[2]? = some hvNumber) (lNumber : esNumber.length ≤ 1000000)
    (hEvent : KindEvent w base kb hvEvent esEvent) (mEvent : ∀ (i : Nat) e, esEvent[i]? = some e → e.len ≤ M) (cEvent : C[8]? = some hvEvent) (lEvent : esEvent.length ≤ 1000000)
    (hAttempt : KindAttempt w base kb hvAttempt esAttempt) (mAttempt : ∀ (i : Nat) e, esAttempt[i]? = some e → e.len ≤ M) (cAttempt : C[22]? = some hvAttempt) (lAttempt : esAttempt.length ≤ 1000000)
    (sNumberEvent : ∀ g, ownsNumber hvNumber esNumber g → ¬ ownsEvent hvEvent esEvent g)
    (sNumberAttempt : ∀ g, ownsNumber hvNumber esNumber g → ¬ ownsAttempt hvAttempt esAttempt g)
    (sEventAttempt : ∀ g, ownsEvent hvEvent esEvent g → ¬ ownsAttempt hvAttempt esAttempt g)
    (hM2 : M ≤ 1000000) (hb : w.heap[kb]? = some (.cells C 60 (0, 0))) (hno : ∀ i, 0 < i → i < 28 → i ≠ 2 → i ≠ 8 → i ≠ 22 → C[i]? = some (.slice none 0 0)) :
    Calls Tryz.prog 13 #[.pointer (some ⟨kb, 0, none⟩)] w fun r w' => r = .returned (.bool true) ∧ Chg (fun k => ownsNumber hvNumber esNumber k ∨ ownsEvent hvEvent esEvent k ∨ ownsAttempt hvAttempt esAttempt k) w w' := by
  have HM2 := hidI hM2
  have HN := hidI hno
  have HB := hidI hb
  have CH := hidI (Chg.refl (fun k => ownsNumber hvNumber esNumber k ∨ ownsEvent hvEvent esEvent k ∨ ownsAttempt hvAttempt esAttempt k) w)
  have KNumber := hidI hNumber
  have LMNumber := hidI mNumber
  have CNumber := hidI cNumber
  have LNumber := hidI lNumber
  have NKNumber := hidI hNumber.notkb
  have KEvent := hidI hEvent
  have LMEvent := hidI mEvent
  have CEvent := hidI cEvent
  have LEvent := hidI lEvent
  have NKEvent := hidI hEvent.notkb
  have KAttempt := hidI hAttempt
  have LMAttempt := hidI mAttempt
  have CAttempt := hidI cAttempt
  have LAttempt := hidI lAttempt
  have NKAttempt := hidI hAttempt.notkb
  have SNumberEvent := hidI sNumberEvent
  have SNumberAttempt := hidI sNumberAttempt
  have SEventAttempt := hidI sEventAttempt
  clear hM2 hb hno hNumber mNumber cNumber lNumber hEvent mEvent cEvent lEvent hAttempt mAttempt cAttempt lAttempt sNumberEvent sNumberAttempt sEventAttempt
  go_enter Tryz.func13, Tryz.ntmps13
  go_wp2_with fail
  refine (fillNumber_any KNumber.out HB.out CNumber.out LNumber.out).mono ?_
  rintro e w1 ⟨rfl, hk, hm, hc⟩
  have KEvent_1 := hidI (KEvent.out.keep (fun g hg hlt => hc.block g hlt (fun e => SNumberEvent.out g (e) (hg))))
  have KAttempt_1 := hidI (KAttempt.out.keep (fun g hg hlt => hc.block g hlt (fun e => SNumberAttempt.out g (e) (hg))))
  have HB_1 := hidI (chgblk hc HB.out NKNumber.out)
  have CH_1 := hidI (CH.out.then_ hc (fun k _ hk => .inl (hk)))
  have KNumber_1 := hidI hk
  have MNumber_1 := hidI hm
  clear hk hm hc
  go_wp2_with fail
  refine (fillWide_no HB_1.out (HN.out 3 (by decide) (by decide) (by decide) (by decide) (by decide))).mono ?_
  rintro e wx ⟨rfl, rfl⟩
  go_wp2_with fail
  refine (fillText_no HB_1.out (HN.out 4 (by decide) (by decide) (by decide) (by decide) (by decide))).mono ?_
  rintro e wx ⟨rfl, rfl⟩
  go_wp2_with fail
  refine (fillCell_no HB_1.out (HN.out 5 (by decide) (by decide) (by decide) (by decide) (by decide))).mono ?_
  rintro e wx ⟨rfl, rfl⟩
  go_wp2_with fail
  refine (fillIns_no HB_1.out (HN.out 6 (by decide) (by decide) (by decide) (by decide) (by decide))).mono ?_
  rintro e wx ⟨rfl, rfl⟩
  go_wp2_with fail
  refine (fillOp_no HB_1.out (HN.out 7 (by decide) (by decide) (by decide) (by decide) (by decide))).mono ?_
  rintro e wx ⟨rfl, rfl⟩
  go_wp2_with fail
  refine (fillEvent_any KEvent_1.out HB_1.out CEvent.out LEvent.out).mono ?_
  rintro e w2 ⟨rfl, hk, hm, hc⟩
  have KNumber_2 := hidI (KNumber_1.out.keep (fun g hg hlt => hc.block g hlt (fun e => SNumberEvent.out g (hg) (e))))
  have MNumber_2 := hidI (keepAllNumber MNumber_1.out (fun g hg hlt => hc.block g hlt (fun e => SNumberEvent.out g (hg) (e))))
  have KAttempt_2 := hidI (KAttempt_1.out.keep (fun g hg hlt => hc.block g hlt (fun e => SEventAttempt.out g (e) (hg))))
  have HB_2 := hidI (chgblk hc HB_1.out NKEvent.out)
  have CH_2 := hidI (CH_1.out.then_ hc (fun k _ hk => .inr (.inl (hk))))
  have KEvent_2 := hidI hk
  have MEvent_2 := hidI hm
  clear hk hm hc
  go_wp2_with fail
  refine (fillPick_no HB_2.out (HN.out 9 (by decide) (by decide) (by decide) (by decide) (by decide))).mono ?_
  rintro e wx ⟨rfl, rfl⟩
  go_wp2_with fail
  refine (fillPlace_no HB_2.out (HN.out 10 (by decide) (by decide) (by decide) (by decide) (by decide))).mono ?_
  rintro e wx ⟨rfl, rfl⟩
  go_wp2_with fail
  refine (fillTxOp_no HB_2.out (HN.out 11 (by decide) (by decide) (by decide) (by decide) (by decide))).mono ?_
  rintro e wx ⟨rfl, rfl⟩
  go_wp2_with fail
  refine (fillToken_no HB_2.out (HN.out 12 (by decide) (by decide) (by decide) (by decide) (by decide))).mono ?_
  rintro e wx ⟨rfl, rfl⟩
  go_wp2_with fail
  refine (fillField_no HB_2.out (HN.out 13 (by decide) (by decide) (by decide) (by decide) (by decide))).mono ?_
  rintro e wx ⟨rfl, rfl⟩
  go_wp2_with fail
  refine (fillSpot_no HB_2.out (HN.out 14 (by decide) (by decide) (by decide) (by decide) (by decide))).mono ?_
  rintro e wx ⟨rfl, rfl⟩
  go_wp2_with fail
  refine (fillSeen_no HB_2.out (HN.out 15 (by decide) (by decide) (by decide) (by decide) (by decide))).mono ?_
  rintro e wx ⟨rfl, rfl⟩
  go_wp2_with fail
  refine (fillExpr_no HB_2.out (HN.out 16 (by decide) (by decide) (by decide) (by decide) (by decide))).mono ?_
  rintro e wx ⟨rfl, rfl⟩
  go_wp2_with fail
  refine (fillStmt_no HB_2.out (HN.out 17 (by decide) (by decide) (by decide) (by decide) (by decide))).mono ?_
  rintro e wx ⟨rfl, rfl⟩
  go_wp2_with fail
  refine (fillRecord_no HB_2.out (HN.out 18 (by decide) (by decide) (by decide) (by decide) (by decide))).mono ?_
  rintro e wx ⟨rfl, rfl⟩
  go_wp2_with fail
  refine (fillFunc_no HB_2.out (HN.out 19 (by decide) (by decide) (by decide) (by decide) (by decide))).mono ?_
  rintro e wx ⟨rfl, rfl⟩
  go_wp2_with fail
  refine (fillBlock_no HB_2.out (HN.out 20 (by decide) (by decide) (by decide) (by decide) (by decide))).mono ?_
  rintro e wx ⟨rfl, rfl⟩
  go_wp2_with fail
  refine (fillGraph_no HB_2.out (HN.out 21 (by decide) (by decide) (by decide) (by decide) (by decide))).mono ?_
  rintro e wx ⟨rfl, rfl⟩
  go_wp2_with fail
  refine (fillAttempt_any KAttempt_2.out HB_2.out CAttempt.out LAttempt.out).mono ?_
  rintro e w3 ⟨rfl, hk, hm, hc⟩
  have KNumber_3 := hidI (KNumber_2.out.keep (fun g hg hlt => hc.block g hlt (fun e => SNumberAttempt.out g (hg) (e))))
  have MNumber_3 := hidI (keepAllNumber MNumber_2.out (fun g hg hlt => hc.block g hlt (fun e => SNumberAttempt.out g (hg) (e))))
  have KEvent_3 := hidI (KEvent_2.out.keep (fun g hg hlt => hc.block g hlt (fun e => SEventAttempt.out g (hg) (e))))
  have MEvent_3 := hidI (keepAllEvent MEvent_2.out (fun g hg hlt => hc.block g hlt (fun e => SEventAttempt.out g (hg) (e))))
  have HB_3 := hidI (chgblk hc HB_2.out NKAttempt.out)
  have CH_3 := hidI (CH_2.out.then_ hc (fun k _ hk => .inr (.inr (hk))))
  have KAttempt_3 := hidI hk
  have MAttempt_3 := hidI hm
  clear hk hm hc
  go_wp2_with fail
  refine (fillNumberRow_no HB_3.out (HN.out 23 (by decide) (by decide) (by decide) (by decide) (by decide))).mono ?_
  rintro e wx ⟨rfl, rfl⟩
  go_wp2_with fail
  refine (fillOpRow_no HB_3.out (HN.out 24 (by decide) (by decide) (by decide) (by decide) (by decide))).mono ?_
  rintro e wx ⟨rfl, rfl⟩
  go_wp2_with fail
  refine (fillStmtRow_no HB_3.out (HN.out 25 (by decide) (by decide) (by decide) (by decide) (by decide))).mono ?_
  rintro e wx ⟨rfl, rfl⟩
  go_wp2_with fail
  refine (fillTxRow_no HB_3.out (HN.out 26 (by decide) (by decide) (by decide) (by decide) (by decide))).mono ?_
  rintro e wx ⟨rfl, rfl⟩
  go_wp2_with fail
  refine (fillSeenRow_no HB_3.out (HN.out 27 (by decide) (by decide) (by decide) (by decide) (by decide))).mono ?_
  rintro e wx ⟨rfl, rfl⟩
  go_wp2_with fail
  refine (growNumber_any KNumber_3.out MNumber_3.out LMNumber.out HM2.out HB_3.out CNumber.out LNumber.out).mono ?_
  rintro e w4 ⟨rfl, esNumber2, hf⟩
  have SNumberEvent_4 := hidI (hf.sep SNumberEvent.out (fun g hg => (KEvent_3.out.from hg).2))
  have SNumberAttempt_4 := hidI (hf.sep SNumberAttempt.out (fun g hg => (KAttempt_3.out.from hg).2))
  have KEvent_4 := hidI (KEvent_3.out.keep (fun g hg hlt => hf.chg.block g hlt (fun e => SNumberEvent.out g (e) (hg))))
  have MEvent_4 := hidI (keepAllEvent MEvent_3.out (fun g hg hlt => hf.chg.block g hlt (fun e => SNumberEvent.out g (e) (hg))))
  have KAttempt_4 := hidI (KAttempt_3.out.keep (fun g hg hlt => hf.chg.block g hlt (fun e => SNumberAttempt.out g (e) (hg))))
  have MAttempt_4 := hidI (keepAllAttempt MAttempt_3.out (fun g hg hlt => hf.chg.block g hlt (fun e => SNumberAttempt.out g (e) (hg))))
  have HB_4 := hidI (chgblk hf.chg HB_3.out NKNumber.out)
  have CH_4 := hidI (CH_3.out.then_ hf.chg (fun k _ hk => .inl (hk)))
  have HFNumber := hidI hf
  clear hf
  have KNumber_4 := hidI HFNumber.out.kind
  have MNumber_4 := hidI HFNumber.out.all
  go_wp2_with fail
  refine (growWide_no HB_4.out (HN.out 3 (by decide) (by decide) (by decide) (by decide) (by decide))).mono ?_
  rintro e wx ⟨rfl, rfl⟩
  go_wp2_with fail
  refine (growText_no HB_4.out (HN.out 4 (by decide) (by decide) (by decide) (by decide) (by decide))).mono ?_
  rintro e wx ⟨rfl, rfl⟩
  go_wp2_with fail
  refine (growCell_no HB_4.out (HN.out 5 (by decide) (by decide) (by decide) (by decide) (by decide))).mono ?_
  rintro e wx ⟨rfl, rfl⟩
  go_wp2_with fail
  refine (growIns_no HB_4.out (HN.out 6 (by decide) (by decide) (by decide) (by decide) (by decide))).mono ?_
  rintro e wx ⟨rfl, rfl⟩
  go_wp2_with fail
  refine (growOp_no HB_4.out (HN.out 7 (by decide) (by decide) (by decide) (by decide) (by decide))).mono ?_
  rintro e wx ⟨rfl, rfl⟩
  go_wp2_with fail
  refine (growEvent_any KEvent_4.out MEvent_4.out LMEvent.out HM2.out HB_4.out CEvent.out LEvent.out).mono ?_
  rintro e w5 ⟨rfl, esEvent2, hf⟩
  have SNumberEvent_5 := hidI (fun g hy hx => hf.sep (fun g hx hy => SNumberEvent_4.out g hy hx) (fun g hg => (KNumber_4.out.from hg).2) g hx hy)
  have SEventAttempt_5 := hidI (hf.sep SEventAttempt.out (fun g hg => (KAttempt_4.out.from hg).2))
  have KNumber_5 := hidI (KNumber_4.out.keep (fun g hg hlt => hf.chg.block g hlt (fun e => SNumberEvent_4.out g (hg) (e))))
  have MNumber_5 := hidI (keepAllNumber MNumber_4.out (fun g hg hlt => hf.chg.block g hlt (fun e => SNumberEvent_4.out g (hg) (e))))
  have KAttempt_5 := hidI (KAttempt_4.out.keep (fun g hg hlt => hf.chg.block g hlt (fun e => SEventAttempt.out g (e) (hg))))
  have MAttempt_5 := hidI (keepAllAttempt MAttempt_4.out (fun g hg hlt => hf.chg.block g hlt (fun e => SEventAttempt.out g (e) (hg))))
  have HB_5 := hidI (chgblk hf.chg HB_4.out NKEvent.out)
  have CH_5 := hidI (CH_4.out.then_ hf.chg (fun k _ hk => .inr (.inl (hk))))
  have HFEvent := hidI hf
  clear hf
  have KEvent_5 := hidI HFEvent.out.kind
  have MEvent_5 := hidI HFEvent.out.all
  go_wp2_with fail
  refine (growPick_no HB_5.out (HN.out 9 (by decide) (by decide) (by decide) (by decide) (by decide))).mono ?_
  rintro e wx ⟨rfl, rfl⟩
  go_wp2_with fail
  refine (growPlace_no HB_5.out (HN.out 10 (by decide) (by decide) (by decide) (by decide) (by decide))).mono ?_
  rintro e wx ⟨rfl, rfl⟩
  go_wp2_with fail
  refine (growTxOp_no HB_5.out (HN.out 11 (by decide) (by decide) (by decide) (by decide) (by decide))).mono ?_
  rintro e wx ⟨rfl, rfl⟩
  go_wp2_with fail
  refine (growToken_no HB_5.out (HN.out 12 (by decide) (by decide) (by decide) (by decide) (by decide))).mono ?_
  rintro e wx ⟨rfl, rfl⟩
  go_wp2_with fail
  refine (growField_no HB_5.out (HN.out 13 (by decide) (by decide) (by decide) (by decide) (by decide))).mono ?_
  rintro e wx ⟨rfl, rfl⟩
  go_wp2_with fail
  refine (growSpot_no HB_5.out (HN.out 14 (by decide) (by decide) (by decide) (by decide) (by decide))).mono ?_
  rintro e wx ⟨rfl, rfl⟩
  go_wp2_with fail
  refine (growSeen_no HB_5.out (HN.out 15 (by decide) (by decide) (by decide) (by decide) (by decide))).mono ?_
  rintro e wx ⟨rfl, rfl⟩
  go_wp2_with fail
  refine (growExpr_no HB_5.out (HN.out 16 (by decide) (by decide) (by decide) (by decide) (by decide))).mono ?_
  rintro e wx ⟨rfl, rfl⟩
  go_wp2_with fail
  refine (growStmt_no HB_5.out (HN.out 17 (by decide) (by decide) (by decide) (by decide) (by decide))).mono ?_
  rintro e wx ⟨rfl, rfl⟩
  go_wp2_with fail
  refine (growRecord_no HB_5.out (HN.out 18 (by decide) (by decide) (by decide) (by decide) (by decide))).mono ?_
  rintro e wx ⟨rfl, rfl⟩
  go_wp2_with fail
  refine (growFunc_no HB_5.out (HN.out 19 (by decide) (by decide) (by decide) (by decide) (by decide))).mono ?_
  rintro e wx ⟨rfl, rfl⟩
  go_wp2_with fail
  refine (growBlock_no HB_5.out (HN.out 20 (by decide) (by decide) (by decide) (by decide) (by decide))).mono ?_
  rintro e wx ⟨rfl, rfl⟩
  go_wp2_with fail
  refine (growGraph_no HB_5.out (HN.out 21 (by decide) (by decide) (by decide) (by decide) (by decide))).mono ?_
  rintro e wx ⟨rfl, rfl⟩
  go_wp2_with fail
  refine (growAttempt_any KAttempt_5.out MAttempt_5.out LMAttempt.out HM2.out HB_5.out CAttempt.out LAttempt.out).mono ?_
  rintro e w6 ⟨rfl, esAttempt2, hf⟩
  have SNumberAttempt_6 := hidI (fun g hy hx => hf.sep (fun g hx hy => SNumberAttempt_4.out g hy hx) (fun g hg => (KNumber_5.out.from hg).2) g hx hy)
  have SEventAttempt_6 := hidI (fun g hy hx => hf.sep (fun g hx hy => SEventAttempt_5.out g hy hx) (fun g hg => (KEvent_5.out.from hg).2) g hx hy)
  have KNumber_6 := hidI (KNumber_5.out.keep (fun g hg hlt => hf.chg.block g hlt (fun e => SNumberAttempt_4.out g (hg) (e))))
  have MNumber_6 := hidI (keepAllNumber MNumber_5.out (fun g hg hlt => hf.chg.block g hlt (fun e => SNumberAttempt_4.out g (hg) (e))))
  have KEvent_6 := hidI (KEvent_5.out.keep (fun g hg hlt => hf.chg.block g hlt (fun e => SEventAttempt_5.out g (hg) (e))))
  have MEvent_6 := hidI (keepAllEvent MEvent_5.out (fun g hg hlt => hf.chg.block g hlt (fun e => SEventAttempt_5.out g (hg) (e))))
  have HB_6 := hidI (chgblk hf.chg HB_5.out NKAttempt.out)
  have CH_6 := hidI (CH_5.out.then_ hf.chg (fun k _ hk => .inr (.inr (hk))))
  have HFAttempt := hidI hf
  clear hf
  have KAttempt_6 := hidI HFAttempt.out.kind
  have MAttempt_6 := hidI HFAttempt.out.all
  go_wp2_with fail
  refine (growNumberRow_no HB_6.out (HN.out 23 (by decide) (by decide) (by decide) (by decide) (by decide))).mono ?_
  rintro e wx ⟨rfl, rfl⟩
  go_wp2_with fail
  refine (growOpRow_no HB_6.out (HN.out 24 (by decide) (by decide) (by decide) (by decide) (by decide))).mono ?_
  rintro e wx ⟨rfl, rfl⟩
  go_wp2_with fail
  refine (growStmtRow_no HB_6.out (HN.out 25 (by decide) (by decide) (by decide) (by decide) (by decide))).mono ?_
  rintro e wx ⟨rfl, rfl⟩
  go_wp2_with fail
  refine (growTxRow_no HB_6.out (HN.out 26 (by decide) (by decide) (by decide) (by decide) (by decide))).mono ?_
  rintro e wx ⟨rfl, rfl⟩
  go_wp2_with fail
  refine (growSeenRow_no HB_6.out (HN.out 27 (by decide) (by decide) (by decide) (by decide) (by decide))).mono ?_
  rintro e wx ⟨rfl, rfl⟩
  obtain ⟨wc, rfl⟩ : ∃ x, x = wx := ⟨_, rfl⟩
  go_wp2_with fail
  go_loopw [3] (fun i w' => ∃ k : Nat, k ≤ 8 ∧ i = .int .u64 (k : Int) ∧ w' = wc) (fun i _ => ((8 : Int) - intOf i).toNat)
  case atStart => exact ⟨0, by omega, rfl, rfl⟩
  case round =>
    obtain ⟨k, hk, rfl, hw⟩ := hrel
    rw [hw]
    clear hw
    by_cases hlt : k < 8
    · go_wp2_with fail
      refine (bits_no k HB_6.out (HN.out 1 (by decide) (by decide) (by decide) (by decide) (by decide))).mono ?_
      rintro e wx ⟨rfl, rfl⟩
      go_wp2_with fail
      exact ⟨⟨k + 1, by omega, by go_num, trivial⟩, by simp [intOf]; omega⟩
    · obtain rfl : k = 8 := by omega
      have HW_0 := hidI (Below.refl wc.heap.size wc)
      go_wp2_with fail
      refine (lookNumber_any KNumber_6.out MNumber_6.out HB_6.out CNumber.out (by rw [HFNumber.out.len]; exact LNumber.out)).mono ?_
      rintro e wl1 ⟨rfl, hb3⟩
      have KEvent_l1 := hidI (KEvent_6.out.below hb3)
      have MEvent_l1 := hidI (keepAllEvent (hv := hvEvent) MEvent_6.out (fun g _ hl => hb3.block g hl))
      have KAttempt_l1 := hidI (KAttempt_6.out.below hb3)
      have MAttempt_l1 := hidI (keepAllAttempt (hv := hvAttempt) MAttempt_6.out (fun g _ hl => hb3.block g hl))
      have HB_l1 := hidI (blk hb3 HB_6.out)
      have CH_l1 := hidI (CH_6.out.then_ (Chg.of_below (S := fun _ => False) hb3) (fun _ _ q => q.elim))
      clear hb3
      go_wp2_with fail
      refine (lookWide_no HB_l1.out (HN.out 3 (by decide) (by decide) (by decide) (by decide) (by decide))).mono ?_
      rintro e wx ⟨rfl, rfl⟩
      go_wp2_with fail
      refine (lookText_no HB_l1.out (HN.out 4 (by decide) (by decide) (by decide) (by decide) (by decide))).mono ?_
      rintro e wx ⟨rfl, rfl⟩
      go_wp2_with fail
      refine (lookCell_no HB_l1.out (HN.out 5 (by decide) (by decide) (by decide) (by decide) (by decide))).mono ?_
      rintro e wx ⟨rfl, rfl⟩
      go_wp2_with fail
      refine (lookIns_no HB_l1.out (HN.out 6 (by decide) (by decide) (by decide) (by decide) (by decide))).mono ?_
      rintro e wx ⟨rfl, rfl⟩
      go_wp2_with fail
      refine (lookOp_no HB_l1.out (HN.out 7 (by decide) (by decide) (by decide) (by decide) (by decide))).mono ?_
      rintro e wx ⟨rfl, rfl⟩
      go_wp2_with fail
      refine (lookEvent_any KEvent_l1.out MEvent_l1.out HB_l1.out CEvent.out (by rw [HFEvent.out.len]; exact LEvent.out)).mono ?_
      rintro e wl2 ⟨rfl, hb3⟩
      have KAttempt_l2 := hidI (KAttempt_l1.out.below hb3)
      have MAttempt_l2 := hidI (keepAllAttempt (hv := hvAttempt) MAttempt_l1.out (fun g _ hl => hb3.block g hl))
      have HB_l2 := hidI (blk hb3 HB_l1.out)
      have CH_l2 := hidI (CH_l1.out.then_ (Chg.of_below (S := fun _ => False) hb3) (fun _ _ q => q.elim))
      clear hb3
      go_wp2_with fail
      refine (lookPick_no HB_l2.out (HN.out 9 (by decide) (by decide) (by decide) (by decide) (by decide))).mono ?_
      rintro e wx ⟨rfl, rfl⟩
      go_wp2_with fail
      refine (lookPlace_no HB_l2.out (HN.out 10 (by decide) (by decide) (by decide) (by decide) (by decide))).mono ?_
      rintro e wx ⟨rfl, rfl⟩
      go_wp2_with fail
      refine (lookTxOp_no HB_l2.out (HN.out 11 (by decide) (by decide) (by decide) (by decide) (by decide))).mono ?_
      rintro e wx ⟨rfl, rfl⟩
      go_wp2_with fail
      refine (lookToken_no HB_l2.out (HN.out 12 (by decide) (by decide) (by decide) (by decide) (by decide))).mono ?_
      rintro e wx ⟨rfl, rfl⟩
      go_wp2_with fail
      refine (lookField_no HB_l2.out (HN.out 13 (by decide) (by decide) (by decide) (by decide) (by decide))).mono ?_
      rintro e wx ⟨rfl, rfl⟩
      go_wp2_with fail
      refine (lookSpot_no HB_l2.out (HN.out 14 (by decide) (by decide) (by decide) (by decide) (by decide))).mono ?_
      rintro e wx ⟨rfl, rfl⟩
      go_wp2_with fail
      refine (lookSeen_no HB_l2.out (HN.out 15 (by decide) (by decide) (by decide) (by decide) (by decide))).mono ?_
      rintro e wx ⟨rfl, rfl⟩
      go_wp2_with fail
      refine (lookExpr_no HB_l2.out (HN.out 16 (by decide) (by decide) (by decide) (by decide) (by decide))).mono ?_
      rintro e wx ⟨rfl, rfl⟩
      go_wp2_with fail
      refine (lookStmt_no HB_l2.out (HN.out 17 (by decide) (by decide) (by decide) (by decide) (by decide))).mono ?_
      rintro e wx ⟨rfl, rfl⟩
      go_wp2_with fail
      refine (lookRecord_no HB_l2.out (HN.out 18 (by decide) (by decide) (by decide) (by decide) (by decide))).mono ?_
      rintro e wx ⟨rfl, rfl⟩
      go_wp2_with fail
      refine (lookFunc_no HB_l2.out (HN.out 19 (by decide) (by decide) (by decide) (by decide) (by decide))).mono ?_
      rintro e wx ⟨rfl, rfl⟩
      go_wp2_with fail
      refine (lookBlock_no HB_l2.out (HN.out 20 (by decide) (by decide) (by decide) (by decide) (by decide))).mono ?_
      rintro e wx ⟨rfl, rfl⟩
      go_wp2_with fail
      refine (lookGraph_no HB_l2.out (HN.out 21 (by decide) (by decide) (by decide) (by decide) (by decide))).mono ?_
      rintro e wx ⟨rfl, rfl⟩
      go_wp2_with fail
      refine (lookAttempt_any KAttempt_l2.out MAttempt_l2.out HB_l2.out CAttempt.out (by rw [HFAttempt.out.len]; exact LAttempt.out)).mono ?_
      rintro e wl3 ⟨rfl, hb3⟩
      have HB_l3 := hidI (blk hb3 HB_l2.out)
      have CH_l3 := hidI (CH_l2.out.then_ (Chg.of_below (S := fun _ => False) hb3) (fun _ _ q => q.elim))
      clear hb3
      go_wp2_with fail
      refine (lookNumberRow_no HB_l3.out (HN.out 23 (by decide) (by decide) (by decide) (by decide) (by decide))).mono ?_
      rintro e wx ⟨rfl, rfl⟩
      go_wp2_with fail
      refine (lookOpRow_no HB_l3.out (HN.out 24 (by decide) (by decide) (by decide) (by decide) (by decide))).mono ?_
      rintro e wx ⟨rfl, rfl⟩
      go_wp2_with fail
      refine (lookStmtRow_no HB_l3.out (HN.out 25 (by decide) (by decide) (by decide) (by decide) (by decide))).mono ?_
      rintro e wx ⟨rfl, rfl⟩
      go_wp2_with fail
      refine (lookTxRow_no HB_l3.out (HN.out 26 (by decide) (by decide) (by decide) (by decide) (by decide))).mono ?_
      rintro e wx ⟨rfl, rfl⟩
      go_wp2_with fail
      refine (lookSeenRow_no HB_l3.out (HN.out 27 (by decide) (by decide) (by decide) (by decide) (by decide))).mono ?_
      rintro e wx ⟨rfl, rfl⟩
      go_wp2_with fail
      go_ret
      exact ⟨rfl, CH_l3.out⟩

end Go.Proofs.YtilkpmjkiohfdaaGreatDoor

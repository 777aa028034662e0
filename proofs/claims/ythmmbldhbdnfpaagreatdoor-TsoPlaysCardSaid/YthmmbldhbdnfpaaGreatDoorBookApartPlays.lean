/- turnstilelaw01.Book: Apart over a book that has lists of these kinds alone: Wide, Cell, Event, Seen. (Written by mkapartn.py.) -/
import Derived.Test.YthmmbldhbdnfpaaGreatDoorMBook
namespace Go.Proofs.YthmmbldhbdnfpaaGreatDoor
open Go.RowKit
set_option linter.unusedVariables false
set_option linter.unusedSimpArgs false

set_option maxRecDepth 100000 in
set_option maxHeartbeats 16000000 in
theorem apartPlays_any {w : World} {base kb M : Nat} {C : Array Value} {hvWide : Value} {esWide : List EntWide} {hvCell : Value} {esCell : List EntCell} {hvEvent : Value} {esEvent : List EntEvent} {hvSeen : Value} {esSeen : List EntSeen}
    (hWide : KindWide w base kb hvWide esWide) (mWide : ∀ (i : Nat) e, esWide[i]? = some e → e.len ≤ M) (cWide : C[3]? = some hvWide) (lWide : esWide.length ≤ 4000000)
    (hCell : KindCell w base kb hvCell esCell) (mCell : ∀ (i : Nat) e, esCell[i]? = some e → e.len ≤ M) (cCell : C[5]? = some hvCell) (lCell : esCell.length ≤ 4000000)
    (hEvent : KindEvent w base kb hvEvent esEvent) (mEvent : ∀ (i : Nat) e, esEvent[i]? = some e → e.len ≤ M) (cEvent : C[8]? = some hvEvent) (lEvent : esEvent.length ≤ 4000000)
    (hSeen : KindSeen w base kb hvSeen esSeen) (mSeen : ∀ (i : Nat) e, esSeen[i]? = some e → e.len ≤ M) (cSeen : C[15]? = some hvSeen) (lSeen : esSeen.length ≤ 4000000)
    (sWideCell : ∀ g, ownsWide hvWide esWide g → ¬ ownsCell hvCell esCell g)
    (sWideEvent : ∀ g, ownsWide hvWide esWide g → ¬ ownsEvent hvEvent esEvent g)
    (sWideSeen : ∀ g, ownsWide hvWide esWide g → ¬ ownsSeen hvSeen esSeen g)
    (sCellEvent : ∀ g, ownsCell hvCell esCell g → ¬ ownsEvent hvEvent esEvent g)
    (sCellSeen : ∀ g, ownsCell hvCell esCell g → ¬ ownsSeen hvSeen esSeen g)
    (sEventSeen : ∀ g, ownsEvent hvEvent esEvent g → ¬ ownsSeen hvSeen esSeen g)
    (hM2 : M ≤ 4000000) (hb : w.heap[kb]? = some (.cells C 92 (0, 0))) (hno : ∀ i, 0 < i → i < 28 → i ≠ 3 → i ≠ 5 → i ≠ 8 → i ≠ 15 → C[i]? = some (.slice none 0 0)) :
    Calls Tryz.prog 26 #[.pointer (some ⟨kb, 0, none⟩)] w fun r w' => r = .returned (.bool true) ∧ Chg (fun k => ownsWide hvWide esWide k ∨ ownsCell hvCell esCell k ∨ ownsEvent hvEvent esEvent k ∨ ownsSeen hvSeen esSeen k) w w' := by
  have HM2 := hidI hM2
  have HN := hidI hno
  have HB := hidI hb
  have CH := hidI (Chg.refl (fun k => ownsWide hvWide esWide k ∨ ownsCell hvCell esCell k ∨ ownsEvent hvEvent esEvent k ∨ ownsSeen hvSeen esSeen k) w)
  have KWide := hidI hWide
  have LMWide := hidI mWide
  have CWide := hidI cWide
  have LWide := hidI lWide
  have NKWide := hidI hWide.notkb
  have KCell := hidI hCell
  have LMCell := hidI mCell
  have CCell := hidI cCell
  have LCell := hidI lCell
  have NKCell := hidI hCell.notkb
  have KEvent := hidI hEvent
  have LMEvent := hidI mEvent
  have CEvent := hidI cEvent
  have LEvent := hidI lEvent
  have NKEvent := hidI hEvent.notkb
  have KSeen := hidI hSeen
  have LMSeen := hidI mSeen
  have CSeen := hidI cSeen
  have LSeen := hidI lSeen
  have NKSeen := hidI hSeen.notkb
  have SWideCell := hidI sWideCell
  have SWideEvent := hidI sWideEvent
  have SWideSeen := hidI sWideSeen
  have SCellEvent := hidI sCellEvent
  have SCellSeen := hidI sCellSeen
  have SEventSeen := hidI sEventSeen
  clear hM2 hb hno hWide mWide cWide lWide hCell mCell cCell lCell hEvent mEvent cEvent lEvent hSeen mSeen cSeen lSeen sWideCell sWideEvent sWideSeen sCellEvent sCellSeen sEventSeen
  go_enter Tryz.func26, Tryz.ntmps26
  go_wp2_with fail
  refine (fillNumber_no HB.out (HN.out 2 (by decide) (by decide) (by decide) (by decide) (by decide) (by decide))).mono ?_
  rintro e wx ⟨rfl, rfl⟩
  go_wp2_with fail
  refine (fillWide_any KWide.out HB.out CWide.out LWide.out).mono ?_
  rintro e w1 ⟨rfl, hk, hm, hc⟩
  have KCell_1 := hidI (KCell.out.keep (fun g hg hlt => hc.block g hlt (fun e => SWideCell.out g (e) (hg))))
  have KEvent_1 := hidI (KEvent.out.keep (fun g hg hlt => hc.block g hlt (fun e => SWideEvent.out g (e) (hg))))
  have KSeen_1 := hidI (KSeen.out.keep (fun g hg hlt => hc.block g hlt (fun e => SWideSeen.out g (e) (hg))))
  have HB_1 := hidI (chgblk hc HB.out NKWide.out)
  have CH_1 := hidI (CH.out.then_ hc (fun k _ hk => .inl (hk)))
  have KWide_1 := hidI hk
  have MWide_1 := hidI hm
  clear hk hm hc
  go_wp2_with fail
  refine (fillText_no HB_1.out (HN.out 4 (by decide) (by decide) (by decide) (by decide) (by decide) (by decide))).mono ?_
  rintro e wx ⟨rfl, rfl⟩
  go_wp2_with fail
  refine (fillCell_any KCell_1.out HB_1.out CCell.out LCell.out).mono ?_
  rintro e w2 ⟨rfl, hk, hm, hc⟩
  have KWide_2 := hidI (KWide_1.out.keep (fun g hg hlt => hc.block g hlt (fun e => SWideCell.out g (hg) (e))))
  have MWide_2 := hidI (keepAllWide MWide_1.out (fun g hg hlt => hc.block g hlt (fun e => SWideCell.out g (hg) (e))))
  have KEvent_2 := hidI (KEvent_1.out.keep (fun g hg hlt => hc.block g hlt (fun e => SCellEvent.out g (e) (hg))))
  have KSeen_2 := hidI (KSeen_1.out.keep (fun g hg hlt => hc.block g hlt (fun e => SCellSeen.out g (e) (hg))))
  have HB_2 := hidI (chgblk hc HB_1.out NKCell.out)
  have CH_2 := hidI (CH_1.out.then_ hc (fun k _ hk => .inr (.inl (hk))))
  have KCell_2 := hidI hk
  have MCell_2 := hidI hm
  clear hk hm hc
  go_wp2_with fail
  refine (fillIns_no HB_2.out (HN.out 6 (by decide) (by decide) (by decide) (by decide) (by decide) (by decide))).mono ?_
  rintro e wx ⟨rfl, rfl⟩
  go_wp2_with fail
  refine (fillOp_no HB_2.out (HN.out 7 (by decide) (by decide) (by decide) (by decide) (by decide) (by decide))).mono ?_
  rintro e wx ⟨rfl, rfl⟩
  go_wp2_with fail
  refine (fillEvent_any KEvent_2.out HB_2.out CEvent.out LEvent.out).mono ?_
  rintro e w3 ⟨rfl, hk, hm, hc⟩
  have KWide_3 := hidI (KWide_2.out.keep (fun g hg hlt => hc.block g hlt (fun e => SWideEvent.out g (hg) (e))))
  have MWide_3 := hidI (keepAllWide MWide_2.out (fun g hg hlt => hc.block g hlt (fun e => SWideEvent.out g (hg) (e))))
  have KCell_3 := hidI (KCell_2.out.keep (fun g hg hlt => hc.block g hlt (fun e => SCellEvent.out g (hg) (e))))
  have MCell_3 := hidI (keepAllCell MCell_2.out (fun g hg hlt => hc.block g hlt (fun e => SCellEvent.out g (hg) (e))))
  have KSeen_3 := hidI (KSeen_2.out.keep (fun g hg hlt => hc.block g hlt (fun e => SEventSeen.out g (e) (hg))))
  have HB_3 := hidI (chgblk hc HB_2.out NKEvent.out)
  have CH_3 := hidI (CH_2.out.then_ hc (fun k _ hk => .inr (.inr (.inl (hk)))))
  have KEvent_3 := hidI hk
  have MEvent_3 := hidI hm
  clear hk hm hc
  go_wp2_with fail
  refine (fillPick_no HB_3.out (HN.out 9 (by decide) (by decide) (by decide) (by decide) (by decide) (by decide))).mono ?_
  rintro e wx ⟨rfl, rfl⟩
  go_wp2_with fail
  refine (fillPlace_no HB_3.out (HN.out 10 (by decide) (by decide) (by decide) (by decide) (by decide) (by decide))).mono ?_
  rintro e wx ⟨rfl, rfl⟩
  go_wp2_with fail
  refine (fillTxOp_no HB_3.out (HN.out 11 (by decide) (by decide) (by decide) (by decide) (by decide) (by decide))).mono ?_
  rintro e wx ⟨rfl, rfl⟩
  go_wp2_with fail
  refine (fillToken_no HB_3.out (HN.out 12 (by decide) (by decide) (by decide) (by decide) (by decide) (by decide))).mono ?_
  rintro e wx ⟨rfl, rfl⟩
  go_wp2_with fail
  refine (fillField_no HB_3.out (HN.out 13 (by decide) (by decide) (by decide) (by decide) (by decide) (by decide))).mono ?_
  rintro e wx ⟨rfl, rfl⟩
  go_wp2_with fail
  refine (fillSpot_no HB_3.out (HN.out 14 (by decide) (by decide) (by decide) (by decide) (by decide) (by decide))).mono ?_
  rintro e wx ⟨rfl, rfl⟩
  go_wp2_with fail
  refine (fillSeen_any KSeen_3.out HB_3.out CSeen.out LSeen.out).mono ?_
  rintro e w4 ⟨rfl, hk, hm, hc⟩
  have KWide_4 := hidI (KWide_3.out.keep (fun g hg hlt => hc.block g hlt (fun e => SWideSeen.out g (hg) (e))))
  have MWide_4 := hidI (keepAllWide MWide_3.out (fun g hg hlt => hc.block g hlt (fun e => SWideSeen.out g (hg) (e))))
  have KCell_4 := hidI (KCell_3.out.keep (fun g hg hlt => hc.block g hlt (fun e => SCellSeen.out g (hg) (e))))
  have MCell_4 := hidI (keepAllCell MCell_3.out (fun g hg hlt => hc.block g hlt (fun e => SCellSeen.out g (hg) (e))))
  have KEvent_4 := hidI (KEvent_3.out.keep (fun g hg hlt => hc.block g hlt (fun e => SEventSeen.out g (hg) (e))))
  have MEvent_4 := hidI (keepAllEvent MEvent_3.out (fun g hg hlt => hc.block g hlt (fun e => SEventSeen.out g (hg) (e))))
  have HB_4 := hidI (chgblk hc HB_3.out NKSeen.out)
  have CH_4 := hidI (CH_3.out.then_ hc (fun k _ hk => .inr (.inr (.inr (hk)))))
  have KSeen_4 := hidI hk
  have MSeen_4 := hidI hm
  clear hk hm hc
  go_wp2_with fail
  refine (fillExpr_no HB_4.out (HN.out 16 (by decide) (by decide) (by decide) (by decide) (by decide) (by decide))).mono ?_
  rintro e wx ⟨rfl, rfl⟩
  go_wp2_with fail
  refine (fillStmt_no HB_4.out (HN.out 17 (by decide) (by decide) (by decide) (by decide) (by decide) (by decide))).mono ?_
  rintro e wx ⟨rfl, rfl⟩
  go_wp2_with fail
  refine (fillRecord_no HB_4.out (HN.out 18 (by decide) (by decide) (by decide) (by decide) (by decide) (by decide))).mono ?_
  rintro e wx ⟨rfl, rfl⟩
  go_wp2_with fail
  refine (fillFunc_no HB_4.out (HN.out 19 (by decide) (by decide) (by decide) (by decide) (by decide) (by decide))).mono ?_
  rintro e wx ⟨rfl, rfl⟩
  go_wp2_with fail
  refine (fillBlock_no HB_4.out (HN.out 20 (by decide) (by decide) (by decide) (by decide) (by decide) (by decide))).mono ?_
  rintro e wx ⟨rfl, rfl⟩
  go_wp2_with fail
  refine (fillGraph_no HB_4.out (HN.out 21 (by decide) (by decide) (by decide) (by decide) (by decide) (by decide))).mono ?_
  rintro e wx ⟨rfl, rfl⟩
  go_wp2_with fail
  refine (fillAttempt_no HB_4.out (HN.out 22 (by decide) (by decide) (by decide) (by decide) (by decide) (by decide))).mono ?_
  rintro e wx ⟨rfl, rfl⟩
  go_wp2_with fail
  refine (fillNumberRow_no HB_4.out (HN.out 23 (by decide) (by decide) (by decide) (by decide) (by decide) (by decide))).mono ?_
  rintro e wx ⟨rfl, rfl⟩
  go_wp2_with fail
  refine (fillOpRow_no HB_4.out (HN.out 24 (by decide) (by decide) (by decide) (by decide) (by decide) (by decide))).mono ?_
  rintro e wx ⟨rfl, rfl⟩
  go_wp2_with fail
  refine (fillStmtRow_no HB_4.out (HN.out 25 (by decide) (by decide) (by decide) (by decide) (by decide) (by decide))).mono ?_
  rintro e wx ⟨rfl, rfl⟩
  go_wp2_with fail
  refine (fillTxRow_no HB_4.out (HN.out 26 (by decide) (by decide) (by decide) (by decide) (by decide) (by decide))).mono ?_
  rintro e wx ⟨rfl, rfl⟩
  go_wp2_with fail
  refine (fillSeenRow_no HB_4.out (HN.out 27 (by decide) (by decide) (by decide) (by decide) (by decide) (by decide))).mono ?_
  rintro e wx ⟨rfl, rfl⟩
  go_wp2_with fail
  refine (growNumber_no HB_4.out (HN.out 2 (by decide) (by decide) (by decide) (by decide) (by decide) (by decide))).mono ?_
  rintro e wx ⟨rfl, rfl⟩
  go_wp2_with fail
  refine (growWide_any KWide_4.out MWide_4.out LMWide.out HM2.out HB_4.out CWide.out LWide.out).mono ?_
  rintro e w5 ⟨rfl, esWide2, hf⟩
  have SWideCell_5 := hidI (hf.sep SWideCell.out (fun g hg => (KCell_4.out.from hg).2))
  have SWideEvent_5 := hidI (hf.sep SWideEvent.out (fun g hg => (KEvent_4.out.from hg).2))
  have SWideSeen_5 := hidI (hf.sep SWideSeen.out (fun g hg => (KSeen_4.out.from hg).2))
  have KCell_5 := hidI (KCell_4.out.keep (fun g hg hlt => hf.chg.block g hlt (fun e => SWideCell.out g (e) (hg))))
  have MCell_5 := hidI (keepAllCell MCell_4.out (fun g hg hlt => hf.chg.block g hlt (fun e => SWideCell.out g (e) (hg))))
  have KEvent_5 := hidI (KEvent_4.out.keep (fun g hg hlt => hf.chg.block g hlt (fun e => SWideEvent.out g (e) (hg))))
  have MEvent_5 := hidI (keepAllEvent MEvent_4.out (fun g hg hlt => hf.chg.block g hlt (fun e => SWideEvent.out g (e) (hg))))
  have KSeen_5 := hidI (KSeen_4.out.keep (fun g hg hlt => hf.chg.block g hlt (fun e => SWideSeen.out g (e) (hg))))
  have MSeen_5 := hidI (keepAllSeen MSeen_4.out (fun g hg hlt => hf.chg.block g hlt (fun e => SWideSeen.out g (e) (hg))))
  have HB_5 := hidI (chgblk hf.chg HB_4.out NKWide.out)
  have CH_5 := hidI (CH_4.out.then_ hf.chg (fun k _ hk => .inl (hk)))
  have HFWide := hidI hf
  clear hf
  have KWide_5 := hidI HFWide.out.kind
  have MWide_5 := hidI HFWide.out.all
  go_wp2_with fail
  refine (growText_no HB_5.out (HN.out 4 (by decide) (by decide) (by decide) (by decide) (by decide) (by decide))).mono ?_
  rintro e wx ⟨rfl, rfl⟩
  go_wp2_with fail
  refine (growCell_any KCell_5.out MCell_5.out LMCell.out HM2.out HB_5.out CCell.out LCell.out).mono ?_
  rintro e w6 ⟨rfl, esCell2, hf⟩
  have SWideCell_6 := hidI (fun g hy hx => hf.sep (fun g hx hy => SWideCell_5.out g hy hx) (fun g hg => (KWide_5.out.from hg).2) g hx hy)
  have SCellEvent_6 := hidI (hf.sep SCellEvent.out (fun g hg => (KEvent_5.out.from hg).2))
  have SCellSeen_6 := hidI (hf.sep SCellSeen.out (fun g hg => (KSeen_5.out.from hg).2))
  have KWide_6 := hidI (KWide_5.out.keep (fun g hg hlt => hf.chg.block g hlt (fun e => SWideCell_5.out g (hg) (e))))
  have MWide_6 := hidI (keepAllWide MWide_5.out (fun g hg hlt => hf.chg.block g hlt (fun e => SWideCell_5.out g (hg) (e))))
  have KEvent_6 := hidI (KEvent_5.out.keep (fun g hg hlt => hf.chg.block g hlt (fun e => SCellEvent.out g (e) (hg))))
  have MEvent_6 := hidI (keepAllEvent MEvent_5.out (fun g hg hlt => hf.chg.block g hlt (fun e => SCellEvent.out g (e) (hg))))
  have KSeen_6 := hidI (KSeen_5.out.keep (fun g hg hlt => hf.chg.block g hlt (fun e => SCellSeen.out g (e) (hg))))
  have MSeen_6 := hidI (keepAllSeen MSeen_5.out (fun g hg hlt => hf.chg.block g hlt (fun e => SCellSeen.out g (e) (hg))))
  have HB_6 := hidI (chgblk hf.chg HB_5.out NKCell.out)
  have CH_6 := hidI (CH_5.out.then_ hf.chg (fun k _ hk => .inr (.inl (hk))))
  have HFCell := hidI hf
  clear hf
  have KCell_6 := hidI HFCell.out.kind
  have MCell_6 := hidI HFCell.out.all
  go_wp2_with fail
  refine (growIns_no HB_6.out (HN.out 6 (by decide) (by decide) (by decide) (by decide) (by decide) (by decide))).mono ?_
  rintro e wx ⟨rfl, rfl⟩
  go_wp2_with fail
  refine (growOp_no HB_6.out (HN.out 7 (by decide) (by decide) (by decide) (by decide) (by decide) (by decide))).mono ?_
  rintro e wx ⟨rfl, rfl⟩
  go_wp2_with fail
  refine (growEvent_any KEvent_6.out MEvent_6.out LMEvent.out HM2.out HB_6.out CEvent.out LEvent.out).mono ?_
  rintro e w7 ⟨rfl, esEvent2, hf⟩
  have SWideEvent_7 := hidI (fun g hy hx => hf.sep (fun g hx hy => SWideEvent_5.out g hy hx) (fun g hg => (KWide_6.out.from hg).2) g hx hy)
  have SCellEvent_7 := hidI (fun g hy hx => hf.sep (fun g hx hy => SCellEvent_6.out g hy hx) (fun g hg => (KCell_6.out.from hg).2) g hx hy)
  have SEventSeen_7 := hidI (hf.sep SEventSeen.out (fun g hg => (KSeen_6.out.from hg).2))
  have KWide_7 := hidI (KWide_6.out.keep (fun g hg hlt => hf.chg.block g hlt (fun e => SWideEvent_5.out g (hg) (e))))
  have MWide_7 := hidI (keepAllWide MWide_6.out (fun g hg hlt => hf.chg.block g hlt (fun e => SWideEvent_5.out g (hg) (e))))
  have KCell_7 := hidI (KCell_6.out.keep (fun g hg hlt => hf.chg.block g hlt (fun e => SCellEvent_6.out g (hg) (e))))
  have MCell_7 := hidI (keepAllCell MCell_6.out (fun g hg hlt => hf.chg.block g hlt (fun e => SCellEvent_6.out g (hg) (e))))
  have KSeen_7 := hidI (KSeen_6.out.keep (fun g hg hlt => hf.chg.block g hlt (fun e => SEventSeen.out g (e) (hg))))
  have MSeen_7 := hidI (keepAllSeen MSeen_6.out (fun g hg hlt => hf.chg.block g hlt (fun e => SEventSeen.out g (e) (hg))))
  have HB_7 := hidI (chgblk hf.chg HB_6.out NKEvent.out)
  have CH_7 := hidI (CH_6.out.then_ hf.chg (fun k _ hk => .inr (.inr (.inl (hk)))))
  have HFEvent := hidI hf
  clear hf
  have KEvent_7 := hidI HFEvent.out.kind
  have MEvent_7 := hidI HFEvent.out.all
  go_wp2_with fail
  refine (growPick_no HB_7.out (HN.out 9 (by decide) (by decide) (by decide) (by decide) (by decide) (by decide))).mono ?_
  rintro e wx ⟨rfl, rfl⟩
  go_wp2_with fail
  refine (growPlace_no HB_7.out (HN.out 10 (by decide) (by decide) (by decide) (by decide) (by decide) (by decide))).mono ?_
  rintro e wx ⟨rfl, rfl⟩
  go_wp2_with fail
  refine (growTxOp_no HB_7.out (HN.out 11 (by decide) (by decide) (by decide) (by decide) (by decide) (by decide))).mono ?_
  rintro e wx ⟨rfl, rfl⟩
  go_wp2_with fail
  refine (growToken_no HB_7.out (HN.out 12 (by decide) (by decide) (by decide) (by decide) (by decide) (by decide))).mono ?_
  rintro e wx ⟨rfl, rfl⟩
  go_wp2_with fail
  refine (growField_no HB_7.out (HN.out 13 (by decide) (by decide) (by decide) (by decide) (by decide) (by decide))).mono ?_
  rintro e wx ⟨rfl, rfl⟩
  go_wp2_with fail
  refine (growSpot_no HB_7.out (HN.out 14 (by decide) (by decide) (by decide) (by decide) (by decide) (by decide))).mono ?_
  rintro e wx ⟨rfl, rfl⟩
  go_wp2_with fail
  refine (growSeen_any KSeen_7.out MSeen_7.out LMSeen.out HM2.out HB_7.out CSeen.out LSeen.out).mono ?_
  rintro e w8 ⟨rfl, esSeen2, hf⟩
  have SWideSeen_8 := hidI (fun g hy hx => hf.sep (fun g hx hy => SWideSeen_5.out g hy hx) (fun g hg => (KWide_7.out.from hg).2) g hx hy)
  have SCellSeen_8 := hidI (fun g hy hx => hf.sep (fun g hx hy => SCellSeen_6.out g hy hx) (fun g hg => (KCell_7.out.from hg).2) g hx hy)
  have SEventSeen_8 := hidI (fun g hy hx => hf.sep (fun g hx hy => SEventSeen_7.out g hy hx) (fun g hg => (KEvent_7.out.from hg).2) g hx hy)
  have KWide_8 := hidI (KWide_7.out.keep (fun g hg hlt => hf.chg.block g hlt (fun e => SWideSeen_5.out g (hg) (e))))
  have MWide_8 := hidI (keepAllWide MWide_7.out (fun g hg hlt => hf.chg.block g hlt (fun e => SWideSeen_5.out g (hg) (e))))
  have KCell_8 := hidI (KCell_7.out.keep (fun g hg hlt => hf.chg.block g hlt (fun e => SCellSeen_6.out g (hg) (e))))
  have MCell_8 := hidI (keepAllCell MCell_7.out (fun g hg hlt => hf.chg.block g hlt (fun e => SCellSeen_6.out g (hg) (e))))
  have KEvent_8 := hidI (KEvent_7.out.keep (fun g hg hlt => hf.chg.block g hlt (fun e => SEventSeen_7.out g (hg) (e))))
  have MEvent_8 := hidI (keepAllEvent MEvent_7.out (fun g hg hlt => hf.chg.block g hlt (fun e => SEventSeen_7.out g (hg) (e))))
  have HB_8 := hidI (chgblk hf.chg HB_7.out NKSeen.out)
  have CH_8 := hidI (CH_7.out.then_ hf.chg (fun k _ hk => .inr (.inr (.inr (hk)))))
  have HFSeen := hidI hf
  clear hf
  have KSeen_8 := hidI HFSeen.out.kind
  have MSeen_8 := hidI HFSeen.out.all
  go_wp2_with fail
  refine (growExpr_no HB_8.out (HN.out 16 (by decide) (by decide) (by decide) (by decide) (by decide) (by decide))).mono ?_
  rintro e wx ⟨rfl, rfl⟩
  go_wp2_with fail
  refine (growStmt_no HB_8.out (HN.out 17 (by decide) (by decide) (by decide) (by decide) (by decide) (by decide))).mono ?_
  rintro e wx ⟨rfl, rfl⟩
  go_wp2_with fail
  refine (growRecord_no HB_8.out (HN.out 18 (by decide) (by decide) (by decide) (by decide) (by decide) (by decide))).mono ?_
  rintro e wx ⟨rfl, rfl⟩
  go_wp2_with fail
  refine (growFunc_no HB_8.out (HN.out 19 (by decide) (by decide) (by decide) (by decide) (by decide) (by decide))).mono ?_
  rintro e wx ⟨rfl, rfl⟩
  go_wp2_with fail
  refine (growBlock_no HB_8.out (HN.out 20 (by decide) (by decide) (by decide) (by decide) (by decide) (by decide))).mono ?_
  rintro e wx ⟨rfl, rfl⟩
  go_wp2_with fail
  refine (growGraph_no HB_8.out (HN.out 21 (by decide) (by decide) (by decide) (by decide) (by decide) (by decide))).mono ?_
  rintro e wx ⟨rfl, rfl⟩
  go_wp2_with fail
  refine (growAttempt_no HB_8.out (HN.out 22 (by decide) (by decide) (by decide) (by decide) (by decide) (by decide))).mono ?_
  rintro e wx ⟨rfl, rfl⟩
  go_wp2_with fail
  refine (growNumberRow_no HB_8.out (HN.out 23 (by decide) (by decide) (by decide) (by decide) (by decide) (by decide))).mono ?_
  rintro e wx ⟨rfl, rfl⟩
  go_wp2_with fail
  refine (growOpRow_no HB_8.out (HN.out 24 (by decide) (by decide) (by decide) (by decide) (by decide) (by decide))).mono ?_
  rintro e wx ⟨rfl, rfl⟩
  go_wp2_with fail
  refine (growStmtRow_no HB_8.out (HN.out 25 (by decide) (by decide) (by decide) (by decide) (by decide) (by decide))).mono ?_
  rintro e wx ⟨rfl, rfl⟩
  go_wp2_with fail
  refine (growTxRow_no HB_8.out (HN.out 26 (by decide) (by decide) (by decide) (by decide) (by decide) (by decide))).mono ?_
  rintro e wx ⟨rfl, rfl⟩
  go_wp2_with fail
  refine (growSeenRow_no HB_8.out (HN.out 27 (by decide) (by decide) (by decide) (by decide) (by decide) (by decide))).mono ?_
  rintro e wx ⟨rfl, rfl⟩
  obtain ⟨wc, rfl⟩ : ∃ x, x = wx := ⟨_, rfl⟩
  go_wp2_with fail
  go_loopw [3] (fun i w' => ∃ k : Nat, k ≤ 8 ∧ i = .int .u64 (k : Int) ∧ w' = wc) (fun i _ => ((8 : Int) - intOf i).toNat)
  case atStart => exact ⟨0, by omega, rfl, rfl⟩
  case round =>
    obtain ⟨k, hk, rfl, hw⟩ := hrel
    rw [hw]
    clear hw
    by_cases hlt : k < 8
    · go_wp2_with fail
      refine (bits_no k HB_8.out (HN.out 1 (by decide) (by decide) (by decide) (by decide) (by decide) (by decide))).mono ?_
      rintro e wx ⟨rfl, rfl⟩
      go_wp2_with fail
      exact ⟨⟨k + 1, by omega, by go_num, trivial⟩, by simp [intOf]; omega⟩
    · obtain rfl : k = 8 := by omega
      have HW_0 := hidI (Below.refl wc.heap.size wc)
      go_wp2_with fail
      refine (lookNumber_no HB_8.out (HN.out 2 (by decide) (by decide) (by decide) (by decide) (by decide) (by decide))).mono ?_
      rintro e wx ⟨rfl, rfl⟩
      go_wp2_with fail
      refine (lookWide_any KWide_8.out MWide_8.out HB_8.out CWide.out (by rw [HFWide.out.len]; exact LWide.out)).mono ?_
      rintro e wl1 ⟨rfl, hb3⟩
      have KCell_l1 := hidI (KCell_8.out.below hb3)
      have MCell_l1 := hidI (keepAllCell (hv := hvCell) MCell_8.out (fun g _ hl => hb3.block g hl))
      have KEvent_l1 := hidI (KEvent_8.out.below hb3)
      have MEvent_l1 := hidI (keepAllEvent (hv := hvEvent) MEvent_8.out (fun g _ hl => hb3.block g hl))
      have KSeen_l1 := hidI (KSeen_8.out.below hb3)
      have MSeen_l1 := hidI (keepAllSeen (hv := hvSeen) MSeen_8.out (fun g _ hl => hb3.block g hl))
      have HB_l1 := hidI (blk hb3 HB_8.out)
      have CH_l1 := hidI (CH_8.out.then_ (Chg.of_below (S := fun _ => False) hb3) (fun _ _ q => q.elim))
      clear hb3
      go_wp2_with fail
      refine (lookText_no HB_l1.out (HN.out 4 (by decide) (by decide) (by decide) (by decide) (by decide) (by decide))).mono ?_
      rintro e wx ⟨rfl, rfl⟩
      go_wp2_with fail
      refine (lookCell_any KCell_l1.out MCell_l1.out HB_l1.out CCell.out (by rw [HFCell.out.len]; exact LCell.out)).mono ?_
      rintro e wl2 ⟨rfl, hb3⟩
      have KEvent_l2 := hidI (KEvent_l1.out.below hb3)
      have MEvent_l2 := hidI (keepAllEvent (hv := hvEvent) MEvent_l1.out (fun g _ hl => hb3.block g hl))
      have KSeen_l2 := hidI (KSeen_l1.out.below hb3)
      have MSeen_l2 := hidI (keepAllSeen (hv := hvSeen) MSeen_l1.out (fun g _ hl => hb3.block g hl))
      have HB_l2 := hidI (blk hb3 HB_l1.out)
      have CH_l2 := hidI (CH_l1.out.then_ (Chg.of_below (S := fun _ => False) hb3) (fun _ _ q => q.elim))
      clear hb3
      go_wp2_with fail
      refine (lookIns_no HB_l2.out (HN.out 6 (by decide) (by decide) (by decide) (by decide) (by decide) (by decide))).mono ?_
      rintro e wx ⟨rfl, rfl⟩
      go_wp2_with fail
      refine (lookOp_no HB_l2.out (HN.out 7 (by decide) (by decide) (by decide) (by decide) (by decide) (by decide))).mono ?_
      rintro e wx ⟨rfl, rfl⟩
      go_wp2_with fail
      refine (lookEvent_any KEvent_l2.out MEvent_l2.out HB_l2.out CEvent.out (by rw [HFEvent.out.len]; exact LEvent.out)).mono ?_
      rintro e wl3 ⟨rfl, hb3⟩
      have KSeen_l3 := hidI (KSeen_l2.out.below hb3)
      have MSeen_l3 := hidI (keepAllSeen (hv := hvSeen) MSeen_l2.out (fun g _ hl => hb3.block g hl))
      have HB_l3 := hidI (blk hb3 HB_l2.out)
      have CH_l3 := hidI (CH_l2.out.then_ (Chg.of_below (S := fun _ => False) hb3) (fun _ _ q => q.elim))
      clear hb3
      go_wp2_with fail
      refine (lookPick_no HB_l3.out (HN.out 9 (by decide) (by decide) (by decide) (by decide) (by decide) (by decide))).mono ?_
      rintro e wx ⟨rfl, rfl⟩
      go_wp2_with fail
      refine (lookPlace_no HB_l3.out (HN.out 10 (by decide) (by decide) (by decide) (by decide) (by decide) (by decide))).mono ?_
      rintro e wx ⟨rfl, rfl⟩
      go_wp2_with fail
      refine (lookTxOp_no HB_l3.out (HN.out 11 (by decide) (by decide) (by decide) (by decide) (by decide) (by decide))).mono ?_
      rintro e wx ⟨rfl, rfl⟩
      go_wp2_with fail
      refine (lookToken_no HB_l3.out (HN.out 12 (by decide) (by decide) (by decide) (by decide) (by decide) (by decide))).mono ?_
      rintro e wx ⟨rfl, rfl⟩
      go_wp2_with fail
      refine (lookField_no HB_l3.out (HN.out 13 (by decide) (by decide) (by decide) (by decide) (by decide) (by decide))).mono ?_
      rintro e wx ⟨rfl, rfl⟩
      go_wp2_with fail
      refine (lookSpot_no HB_l3.out (HN.out 14 (by decide) (by decide) (by decide) (by decide) (by decide) (by decide))).mono ?_
      rintro e wx ⟨rfl, rfl⟩
      go_wp2_with fail
      refine (lookSeen_any KSeen_l3.out MSeen_l3.out HB_l3.out CSeen.out (by rw [HFSeen.out.len]; exact LSeen.out)).mono ?_
      rintro e wl4 ⟨rfl, hb3⟩
      have HB_l4 := hidI (blk hb3 HB_l3.out)
      have CH_l4 := hidI (CH_l3.out.then_ (Chg.of_below (S := fun _ => False) hb3) (fun _ _ q => q.elim))
      clear hb3
      go_wp2_with fail
      refine (lookExpr_no HB_l4.out (HN.out 16 (by decide) (by decide) (by decide) (by decide) (by decide) (by decide))).mono ?_
      rintro e wx ⟨rfl, rfl⟩
      go_wp2_with fail
      refine (lookStmt_no HB_l4.out (HN.out 17 (by decide) (by decide) (by decide) (by decide) (by decide) (by decide))).mono ?_
      rintro e wx ⟨rfl, rfl⟩
      go_wp2_with fail
      refine (lookRecord_no HB_l4.out (HN.out 18 (by decide) (by decide) (by decide) (by decide) (by decide) (by decide))).mono ?_
      rintro e wx ⟨rfl, rfl⟩
      go_wp2_with fail
      refine (lookFunc_no HB_l4.out (HN.out 19 (by decide) (by decide) (by decide) (by decide) (by decide) (by decide))).mono ?_
      rintro e wx ⟨rfl, rfl⟩
      go_wp2_with fail
      refine (lookBlock_no HB_l4.out (HN.out 20 (by decide) (by decide) (by decide) (by decide) (by decide) (by decide))).mono ?_
      rintro e wx ⟨rfl, rfl⟩
      go_wp2_with fail
      refine (lookGraph_no HB_l4.out (HN.out 21 (by decide) (by decide) (by decide) (by decide) (by decide) (by decide))).mono ?_
      rintro e wx ⟨rfl, rfl⟩
      go_wp2_with fail
      refine (lookAttempt_no HB_l4.out (HN.out 22 (by decide) (by decide) (by decide) (by decide) (by decide) (by decide))).mono ?_
      rintro e wx ⟨rfl, rfl⟩
      go_wp2_with fail
      refine (lookNumberRow_no HB_l4.out (HN.out 23 (by decide) (by decide) (by decide) (by decide) (by decide) (by decide))).mono ?_
      rintro e wx ⟨rfl, rfl⟩
      go_wp2_with fail
      refine (lookOpRow_no HB_l4.out (HN.out 24 (by decide) (by decide) (by decide) (by decide) (by decide) (by decide))).mono ?_
      rintro e wx ⟨rfl, rfl⟩
      go_wp2_with fail
      refine (lookStmtRow_no HB_l4.out (HN.out 25 (by decide) (by decide) (by decide) (by decide) (by decide) (by decide))).mono ?_
      rintro e wx ⟨rfl, rfl⟩
      go_wp2_with fail
      refine (lookTxRow_no HB_l4.out (HN.out 26 (by decide) (by decide) (by decide) (by decide) (by decide) (by decide))).mono ?_
      rintro e wx ⟨rfl, rfl⟩
      go_wp2_with fail
      refine (lookSeenRow_no HB_l4.out (HN.out 27 (by decide) (by decide) (by decide) (by decide) (by decide) (by decide))).mono ?_
      rintro e wx ⟨rfl, rfl⟩
      go_wp2_with fail
      go_ret
      exact ⟨rfl, CH_l4.out⟩

end Go.Proofs.YthmmbldhbdnfpaaGreatDoor

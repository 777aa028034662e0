/- turnstilelaw01.Book.Events, Wides; TlRuns' walk. -/
import Derived.Test.YtilkpmjkiohfdaaGreatDoorTrL
import Derived.Test.YtilkpmjkiohfdaaGreatDoorTlP
import Derived.Test.YtilkpmjkiohfdaaGreatDoorTwinTxOp
import Derived.Test.YtilkpmjkiohfdaaGreatDoorBkEventWide
import Derived.Test.YtilkpmjkiohfdaaGreatDoorBeyond
namespace Go.Proofs.YtilkpmjkiohfdaaGreatDoor
open Go.RowKit
set_option linter.unusedVariables false
set_option linter.unusedSimpArgs false

set_option maxHeartbeats 400000 in
theorem widesKeep_any {w : World} {base kb cnt n lc : Nat} {O : Nat → Prop} {lo : Option Addr} {cs : List Value} (h : BkEventWide w base kb cnt O) (hc : cnt < 1000000) (hn : n ≤ 1000000) (hown : w.ownsRow base 2 1 (.slice lo n lc) n cs) (hfree : ∀ g, (Value.slice lo n lc).ownBlock = some g → ¬ O g ∧ g ≠ kb) (hbase : base ≤ w.heap.size) :
    Calls Tryz.prog 46 #[.pointer (some ⟨kb, 0, none⟩), .slice lo n lc] w fun r w' => r = .returned (.tuple #[]) ∧ BkEventWide w' base kb (cnt + 1) (fun g => O g ∨ w.heap.size ≤ g ∨ (Value.slice lo n lc).ownBlock = some g) ∧ Chg (fun k => k = kb ∨ O k) w w' := by
  have HK := hidI (bkEventWide_keepWide h hc hn hown hfree hbase)
  clear h hc hn hown hfree hbase
  go_enter Tryz.func46, Tryz.ntmps46
  go_wp2_with fail
  refine HK.out.mono ?_
  rintro e w1 ⟨rfl, h1, h2⟩
  have HK1 := hidI (And.intro h1 h2)
  clear h1 h2
  go_wp2_with fail
  go_end0
  exact ⟨rfl, HK1.out⟩

set_option maxHeartbeats 400000 in
theorem eventsKeepW_any {w : World} {base kb cnt n lc : Nat} {O : Nat → Prop} {lo : Option Addr} {cs : List Value} (h : BkEventWide w base kb cnt O) (hc : cnt < 1000000) (hn : n ≤ 1000000) (hown : w.ownsRow base 126 4 (.slice lo n lc) n cs) (hfree : ∀ g, (Value.slice lo n lc).ownBlock = some g → ¬ O g ∧ g ≠ kb) (hbase : base ≤ w.heap.size) :
    Calls Tryz.prog 39 #[.pointer (some ⟨kb, 0, none⟩), .slice lo n lc] w fun r w' => r = .returned (.tuple #[]) ∧ BkEventWide w' base kb (cnt + 1) (fun g => O g ∨ w.heap.size ≤ g ∨ (Value.slice lo n lc).ownBlock = some g) ∧ Chg (fun k => k = kb ∨ O k) w w' := by
  have HK := hidI (bkEventWide_keepEvent h hc hn hown hfree hbase)
  clear h hc hn hown hfree hbase
  go_enter Tryz.func39, Tryz.ntmps39
  go_wp2_with fail
  refine HK.out.mono ?_
  rintro e w1 ⟨rfl, h1, h2⟩
  have HK1 := hidI (And.intro h1 h2)
  clear h1 h2
  go_wp2_with fail
  go_end0
  exact ⟨rfl, HK1.out⟩

set_option maxRecDepth 100000 in
set_option maxHeartbeats 16000000 in
theorem tlruns_any {w : World} {ao : Option Addr} {ca : Nat} {l : List Tx} (ha : RdT encTx w 4 (.slice ao l.length ca) l) (hm : l.length < 2 ^ 62) (words threads : Int) :
    Calls Tryz.prog 6 #[.int .i64 words, .int .i64 threads, .slice ao l.length ca] w fun e w' => e = .returned (.bool true) ∧ Below w.heap.size w w' := by
  have hz1 := zero_book
  have hz2 := zbook_size
  have HA := hidI ha
  clear ha
  go_enter Tryz.func6, Tryz.ntmps6
  go_wp2_with fail
  refine (beyond1 l.length (block_new w _) hm).mono ?_
  rintro e w1 ⟨rfl, hb1⟩
  have HB1 := hidI (bnextA (Below.refl _ _) hb1)
  clear hb1
  by_cases hbig : 262144 < l.length
  · rw [decide_eq_true hbig]
    go_wp2_with fail
    go_ret
    exact ⟨rfl, HB1.out⟩
  rw [decide_eq_false hbig]
  go_wp2_with fail
  refine (twinTxOps_any (l := l) (Rd.below HA.out HB1.out) (by omega)).mono ?_
  rintro e w2 ⟨g, hg, rfl, hblk, hb2⟩
  have HG := hidI hg
  have HBLK := hidI hblk
  have HB2 := hidI (HB1.out.trans (hb2.mono HB1.out.size))
  have HGL := hidI (lt_of_block hblk)
  clear hg hblk hb2
  go_wp2_with fail
  refine (tlrun_u (headTxOps HBLK.out (by omega)) words threads).mono ?_
  rintro e w3 ⟨eo1, ec1, mo1, mc1, rfl, hb3, ho3, hp3, hq3⟩
  have HB3 := hidI hb3
  have HO3 := hidI ho3
  have HP3 := hidI hp3
  have HQ3 := hidI hq3
  clear hb3 ho3 hp3 hq3
  go_wp2_with fail
  refine (tlrun_u (headTxOps (blk HB3.out HBLK.out) (by omega)) words threads).mono ?_
  rintro e w4 ⟨eo2, ec2, mo2, mc2, rfl, hb4, ho4, hp4, hq4⟩
  have HB4 := hidI hb4
  have HO4 := hidI ho4
  have HP4 := hidI hp4
  have HQ4 := hidI hq4
  clear hb4 ho4 hp4 hq4
  have HB24 := hidI (HB3.out.trans (HB4.out.mono HB3.out.size))
  have HBW4 := hidI (HB2.out.trans (HB24.out.mono HB2.out.size))
  go_wp2_with fail
  refine (refrun_u (Rd.below HA.out HBW4.out) words threads).mono ?_
  rintro e w5 ⟨eo3, ec3, mo3, mc3, rfl, hb5, ho5, hp5, hq5⟩
  have HB5 := hidI hb5
  have HO5 := hidI ho5
  have HP5 := hidI hp5
  clear hb5 ho5 hp5 hq5
  have HBW5 := hidI (HBW4.out.trans (HB5.out.mono HBW4.out.size))
  have HB35 := hidI (HB4.out.trans (HB5.out.mono HB4.out.size))
  have HLE := hidI (runR_evs words threads l)
  have HLM := hidI (runR_mem words threads l)
  have O1 := hidI (ownRow_keep HO3.out (fun k _ hl => HB35.out.block k hl))
  have P1 := hidI (ownRow_keep HP3.out (fun k _ hl => HB35.out.block k hl))
  have O2 := hidI (ownRow_keep HO4.out (fun k _ hl => HB5.out.block k hl))
  have P2 := hidI (ownRow_keep HP4.out (fun k _ hl => HB5.out.block k hl))
  generalize hE : (runR words threads l).1 = E at *
  generalize hM : (runR words threads l).2.1 = M at *
  generalize hC : (runR words threads l).2.2 = C at *
  clear hE hM hC
  go_wp2_with fail
  refine (sameEvents_true (l := E) (Rd.of_own O1.out) (Rd.of_own HO5.out) (by have := HLE.out; omega)).mono ?_
  rintro e w6 ⟨rfl, hb6⟩
  have HB6 := hidI hb6
  clear hb6
  go_wp2_with fail
  refine (sameEvents_true (l := E) (Rd.below (Rd.of_own O2.out) HB6.out) (Rd.below (Rd.of_own HO5.out) HB6.out) (by have := HLE.out; omega)).mono ?_
  rintro e w7 ⟨rfl, hb7⟩
  have HB7 := hidI (HB6.out.trans (hb7.mono HB6.out.size))
  clear hb7
  go_wp2_with fail
  refine (sameWides_true (l := M) (Rd.below (Rd.of_own P1.out) HB7.out) (Rd.below (Rd.of_own HP5.out) HB7.out) (by have := HLM.out; omega)).mono ?_
  rintro e w8 ⟨rfl, hb8⟩
  have HB8 := hidI (HB7.out.trans (hb8.mono HB7.out.size))
  clear hb8
  go_wp2_with fail
  refine (sameWides_true (l := M) (Rd.below (Rd.of_own P2.out) HB8.out) (Rd.below (Rd.of_own HP5.out) HB8.out) (by have := HLM.out; omega)).mono ?_
  rintro e w9 ⟨rfl, hb9⟩
  have HB9 := hidI (HB8.out.trans (hb9.mono HB8.out.size))
  clear hb9
  have hce : (C == C) = true := by simp
  have hcn : (C != C) = false := by simp
  have LS := hidI (show w.heap.size ≤ w1.heap.size ∧ w1.heap.size ≤ w2.heap.size ∧ w2.heap.size ≤ w3.heap.size ∧ w3.heap.size ≤ w4.heap.size ∧ w4.heap.size ≤ w5.heap.size ∧ w5.heap.size ≤ w9.heap.size from
    ⟨HB1.out.size, by have h1 := HGL.out; have h2 := HG.out; omega, HB3.out.size, HB4.out.size, HB5.out.size, HB9.out.size⟩)
  have RA1 := hidI (fun k (hk : (Value.slice eo1 E.length ec1).ownBlock = some k) => rowLt HO3.out hk)
  have RA2 := hidI (fun k (hk : (Value.slice eo2 E.length ec2).ownBlock = some k) => rowLt HO4.out hk)
  have RB1 := hidI (fun k (hk : (Value.slice mo1 M.length mc1).ownBlock = some k) => rowLt HP3.out hk)
  have RB2 := hidI (fun k (hk : (Value.slice mo2 M.length mc2).ownBlock = some k) => rowLt HP4.out hk)
  have HB10 := hidI (HB9.out.trans ((Below.refl _ w9).alloc (Nat.le_refl _) (.cells zeroBook 60) |>.mono HB9.out.size))
  have K0 : Hid (BkEventWide (w9.alloc (.cells zeroBook 60)) w.heap.size w9.heap.size 0 (fun _ => False)) := hidI (BkEventWide.nil (block_new w9 _))
  have LB := hidI (show w9.heap.size + 1 = (w9.alloc (.cells zeroBook 60)).heap.size from by simp)
  have S1 := hidI (ownsRow_mono (base' := w.heap.size) (ownRow_keep O1.out (fun k _ hl => HB10.out.block k hl)) (by have := LS.out; omega))
  have S2 := hidI (ownsRow_mono (base' := w.heap.size) (ownRow_keep O2.out (fun k _ hl => HB10.out.block k hl)) (by have := LS.out; omega))
  have T1 := hidI (ownsRow_mono (base' := w.heap.size) (ownRow_keep P1.out (fun k _ hl => HB10.out.block k hl)) (by have := LS.out; omega))
  have T2 := hidI (ownsRow_mono (base' := w.heap.size) (ownRow_keep P2.out (fun k _ hl => HB10.out.block k hl)) (by have := LS.out; omega))
  have QQ := hidI (blk HB10.out (blk HB5.out (blk HB24.out HBLK.out)))
  have HBW := hidI (HBW5.out.trans (HB10.out.mono HBW5.out.size))
  go_wp2_with fail
  clear hce hcn hz1 hz2
  generalize w9.alloc (.cells zeroBook 60) = w10 at K0 LB S1 S2 T1 T2 QQ HBW HB10 ⊢
  have KA := hidI (eventsKeepW_any K0.out (by omega) (by have := HLE.out; omega) S1.out (fun k hk => ⟨id, by have := RA1.out k hk; have := LS.out; omega⟩) (by have := LS.out; have := LB.out; omega))
  refine KA.out.mono ?_
  rintro e w11 ⟨rfl, hk, hc⟩
  have K1 : Hid (BkEventWide w11 w.heap.size w9.heap.size 1 (fun k => (Value.slice eo1 E.length ec1).ownBlock = some k ∨ w10.heap.size ≤ k)) := hidI (hk.wide (fun k hk => by
    rcases hk with hk | hk | hk
    · exact hk.elim
    · exact .inr hk
    · exact .inl hk))
  have S2' := hidI (ownsRow_chg S2.out hc (fun k hk e => by have := RA2.out k hk; have := LS.out; rcases e with e | e <;> first | omega | exact e))
  have T1' := hidI (ownsRow_chg T1.out hc (fun k hk e => by have := RB1.out k hk; have := LS.out; rcases e with e | e <;> first | omega | exact e))
  have T2' := hidI (ownsRow_chg T2.out hc (fun k hk e => by have := RB2.out k hk; have := LS.out; rcases e with e | e <;> first | omega | exact e))
  have QQ1 := hidI (chgblk hc QQ.out (fun e => by have := HGL.out; have := LS.out; rcases e with e | e <;> first | omega | exact e))
  have HBW11 := hidI (Chg.below HBW.out HBW.out.size hc (fun k hk => by have := LS.out; rcases hk with e | e <;> first | omega | exact e.elim))
  have L11 := hidI (show w10.heap.size ≤ w11.heap.size from hc.size)
  clear hk hc KA K0
  have KA := hidI (eventsKeepW_any K1.out (by omega) (by have := HLE.out; omega) S2'.out (fun k hk => by
    have := RA2.out k hk; have := LS.out; have := LB.out
    refine ⟨fun e => ?_, by omega⟩
    rcases e with e | e
    · have := RA1.out k e; omega
    · omega) (by have := LS.out; have := LB.out; have := L11.out; omega))
  go_wp2_with fail
  refine KA.out.mono ?_
  rintro e w12 ⟨rfl, hk, hc⟩
  have K2 : Hid (BkEventWide w12 w.heap.size w9.heap.size 2 (fun k => (Value.slice eo1 E.length ec1).ownBlock = some k ∨ (Value.slice eo2 E.length ec2).ownBlock = some k ∨ w10.heap.size ≤ k)) := hidI (hk.wide (fun k hk => by
    rcases hk with (hk | hk) | hk | hk
    · exact .inl hk
    · exact .inr (.inr hk)
    · have := L11.out; exact .inr (.inr (by omega))
    · exact .inr (.inl hk)))
  have hs : ∀ k, k < w4.heap.size → (k = w9.heap.size ∨ (Value.slice eo1 E.length ec1).ownBlock = some k ∨ w10.heap.size ≤ k) → (Value.slice eo1 E.length ec1).ownBlock = some k ∨ (Value.slice eo2 E.length ec2).ownBlock = some k := fun k hk e => by
    have := LS.out; have := LB.out
    rcases e with e | e | e
    · omega
    · exact .inl e
    · omega
  have T1'' := hidI (ownsRow_chg T1'.out hc (fun k hk e => by
    have := RB1.out k hk; have := LS.out
    rcases hs k (by omega) e with e | e
    · exact HQ3.out k e hk
    · have := RA2.out k e; omega))
  have T2'' := hidI (ownsRow_chg T2'.out hc (fun k hk e => by
    have := RB2.out k hk; have := LS.out
    rcases hs k (by omega) e with e | e
    · have := RA1.out k e; omega
    · exact HQ4.out k e hk))
  have QQ2 := hidI (chgblk hc QQ1.out (fun e => by
    have := HGL.out; have := LS.out
    rcases hs g (by omega) e with e | e
    · have := RA1.out g e; omega
    · have := RA2.out g e; omega))
  have HBW12 := hidI (Chg.below HBW11.out HBW11.out.size hc (fun k hk => by
    have := LS.out; have := LB.out
    rcases hk with e | e | e
    · omega
    · have := RA1.out k e; omega
    · omega))
  have L12 := hidI (show w11.heap.size ≤ w12.heap.size from hc.size)
  clear hk hc hs KA K1
  have KA := hidI (widesKeep_any K2.out (by omega) (by have := HLM.out; omega) T1''.out (fun k hk => by
    have := RB1.out k hk; have := LS.out; have := LB.out
    refine ⟨fun e => ?_, by omega⟩
    rcases e with e | e | e
    · exact HQ3.out k e hk
    · have := RA2.out k e; omega
    · omega) (by have := LS.out; have := LB.out; have := L11.out; have := L12.out; omega))
  go_wp2_with fail
  refine KA.out.mono ?_
  rintro e w13 ⟨rfl, hk, hc⟩
  have K3 : Hid (BkEventWide w13 w.heap.size w9.heap.size 3 (fun k => (w2.heap.size ≤ k ∧ k < w3.heap.size) ∨ (Value.slice eo2 E.length ec2).ownBlock = some k ∨ w10.heap.size ≤ k)) := hidI (hk.wide (fun k hk => by
    have := LS.out; have := L11.out; have := L12.out
    rcases hk with (hk | hk | hk) | hk | hk
    · exact .inl (RA1.out k hk)
    · exact .inr (.inl hk)
    · exact .inr (.inr hk)
    · exact .inr (.inr (by omega))
    · exact .inl (RB1.out k hk)))
  have hs : ∀ k, k < w4.heap.size → (k = w9.heap.size ∨ (Value.slice eo1 E.length ec1).ownBlock = some k ∨ (Value.slice eo2 E.length ec2).ownBlock = some k ∨ w10.heap.size ≤ k) → (w2.heap.size ≤ k ∧ k < w3.heap.size) ∨ (Value.slice eo2 E.length ec2).ownBlock = some k := fun k hk e => by
    have := LS.out; have := LB.out
    rcases e with e | e | e | e
    · omega
    · exact .inl (RA1.out k e)
    · exact .inr e
    · omega
  have T2x := hidI (ownsRow_chg T2''.out hc (fun k hk e => by
    have := RB2.out k hk; have := LS.out
    rcases hs k (by omega) e with e | e
    · omega
    · exact HQ4.out k e hk))
  have QQ3 := hidI (chgblk hc QQ2.out (fun e => by
    have := HGL.out; have := LS.out
    rcases hs g (by omega) e with e | e
    · omega
    · have := RA2.out g e; omega))
  have HBW13 := hidI (Chg.below HBW12.out HBW12.out.size hc (fun k hk => by
    have := LS.out; have := LB.out
    rcases hk with e | e | e | e
    · omega
    · have := RA1.out k e; omega
    · have := RA2.out k e; omega
    · omega))
  have L13 := hidI (show w12.heap.size ≤ w13.heap.size from hc.size)
  clear hk hc hs KA K2
  have KA := hidI (widesKeep_any K3.out (by omega) (by have := HLM.out; omega) T2x.out (fun k hk => by
    have := RB2.out k hk; have := LS.out; have := LB.out
    refine ⟨fun e => ?_, by omega⟩
    rcases e with e | e | e
    · omega
    · exact HQ4.out k e hk
    · omega) (by have := LS.out; have := LB.out; have := L11.out; have := L12.out; have := L13.out; omega))
  go_wp2_with fail
  refine KA.out.mono ?_
  rintro e w14 ⟨rfl, hk, hc⟩
  have K4 : Hid (BkEventWide w14 w.heap.size w9.heap.size 4 (fun k => w2.heap.size ≤ k)) := hidI (hk.wide (fun k hk => by
    have := LS.out; have := LB.out; have := L11.out; have := L12.out; have := L13.out
    rcases hk with (hk | hk | hk) | hk | hk
    · exact hk.1
    · have := RA2.out k hk; omega
    · omega
    · omega
    · have := RB2.out k hk; omega))
  have QQ4 := hidI (chgblk hc QQ3.out (fun e => by
    have := HGL.out; have := LS.out; have := LB.out
    rcases e with e | e | e | e
    · omega
    · omega
    · have := RA2.out g e; omega
    · omega))
  have HBW14 := hidI (Chg.below HBW13.out HBW13.out.size hc (fun k hk => by
    have := LS.out; have := LB.out
    rcases hk with e | e | e | e
    · omega
    · omega
    · have := RA2.out k e; omega
    · omega))
  clear hk hc KA K3
  have KA := hidI (bkEventWide_apart K4.out)
  go_wp2_with fail
  refine KA.out.mono ?_
  rintro e w15 ⟨rfl, hc⟩
  have QQ5 := hidI (chgblk hc QQ4.out (fun e => by have := HGL.out; omega))
  have HBW15 := hidI (Chg.below HBW14.out HBW14.out.size hc (fun k hk => by have := LS.out; omega))
  clear hc KA K4
  go_wp2_with fail
  refine (leftTxOps_true (l := l) QQ5.out (Rd.below HA.out HBW15.out) (by omega)).mono ?_
  rintro e w16 ⟨rfl, hb⟩
  have HBW16 := hidI (HBW15.out.trans (hb.mono HBW15.out.size))
  clear hb
  go_wp2_with fail
  refine (lives_any _).mono ?_
  rintro e w17 ⟨rfl, hb⟩
  have HBW17 := hidI (HBW16.out.trans (hb.mono HBW16.out.size))
  clear hb
  go_wp2_with fail
  go_ret
  exact ⟨rfl, HBW17.out⟩
end Go.Proofs.YtilkpmjkiohfdaaGreatDoor

/- HistoryTells' walk. -/
import Derived.Test.YtilkpmjkiohfdaaGreatDoorHistK
import Derived.Test.YtilkpmjkiohfdaaGreatDoorHistL
import Derived.Test.YtilkpmjkiohfdaaGreatDoorHistRL
import Derived.Test.YtilkpmjkiohfdaaGreatDoorHistSA
import Derived.Test.YtilkpmjkiohfdaaGreatDoorTwinEvent
import Derived.Test.YtilkpmjkiohfdaaGreatDoorBeyond
namespace Go.Proofs.YtilkpmjkiohfdaaGreatDoor
open Go.RowKit
set_option linter.unusedVariables false
set_option linter.unusedSimpArgs false

theorem ofL_len (evs : List Ev) : (ofL evs).length ≤ evs.length := by
  unfold ofL
  cases hr : runH evs 0 HS.init with
  | inl s => have := atts_run _ hr; simpa [HS.init] using this
  | inr k => simp
theorem ofL_done (evs : List Ev) (j : Nat) (a : Att) (h : (ofL evs)[j]? = some a) : a.done.length ≤ evs.length := by
  unfold ofL at h
  cases hr : runH evs 0 HS.init with
  | inl s => rw [hr] at h; exact done_le h (total_le _ hr)
  | inr k => rw [hr] at h; simp at h
theorem Owned.facts {evs : List Ev} {ps : List (Att × Value)} (h : ps.map Prod.fst = ofL evs) : ps.length ≤ evs.length ∧ ∀ (j : Nat) p, ps[j]? = some p → p.1.done.length ≤ evs.length := by
  refine ⟨by have := ofL_len evs; rw [← h] at this; simpa using this, fun j p hp => ofL_done evs j p.1 ?_⟩
  rw [← h, List.getElem?_map, hp]; rfl

set_option maxRecDepth 100000 in
set_option maxHeartbeats 16000000 in
theorem tells_any {w : World} {ao : Option Addr} {ca : Nat} {evs : List Ev} (ha : RdT encEv w 4 (.slice ao evs.length ca) evs) (hm : evs.length < 2 ^ 62) (t : Int) :
    Calls Tryz.prog 5 #[.slice ao evs.length ca, .int .i64 t] w fun e w' => e = .returned (.bool true) ∧ Below w.heap.size w w' := by
  have hz1 := zero_book
  have hz2 := zbook_size
  have HA := hidI ha
  clear ha
  go_enter Tryz.func5, Tryz.ntmps5
  go_wp2_with fail
  refine (beyond1 evs.length (block_new w _) hm).mono ?_
  rintro e w1 ⟨rfl, hb1⟩
  have HB1 := hidI (bnextA (Below.refl _ _) hb1)
  clear hb1
  by_cases hbig : 262144 < evs.length
  · rw [decide_eq_true hbig]
    go_wp2_with fail
    go_ret
    exact ⟨rfl, HB1.out⟩
  rw [decide_eq_false hbig]
  go_wp2_with fail
  refine (twinEvents_any (l := evs) (Rd.below HA.out HB1.out) (by omega)).mono ?_
  rintro e w2 ⟨g, hg, rfl, hblk, hb2⟩
  have HG := hidI hg
  have HBLK := hidI hblk
  have HB2 := hidI (HB1.out.trans (hb2.mono HB1.out.size))
  have HGL := hidI (lt_of_block hblk)
  clear hg hblk hb2
  go_wp2_with fail
  refine (of_any (headEvents HBLK.out (by omega)) (by omega)).mono ?_
  intro e w3 h
  obtain ⟨a1, c1, ps1, hp1, rfl, ho1, hb3⟩ := OfU.of h
  have HP1 := hidI hp1
  have HO1 := hidI ho1
  have HB3 := hidI hb3
  clear h hp1 ho1 hb3
  go_wp2_with fail
  refine (of_any (headEvents (blk HB3.out HBLK.out) (by omega)) (by omega)).mono ?_
  intro e w4 h
  obtain ⟨a2, c2, ps2, hp2, rfl, ho2, hb4⟩ := OfU.of h
  have HP2 := hidI hp2
  have HO2 := hidI ho2
  have HB4 := hidI hb4
  clear h hp2 ho2 hb4
  have HB24 := hidI (HB3.out.trans (HB4.out.mono HB3.out.size))
  go_wp2_with fail
  refine (locals_any (headEvents (blk HB24.out HBLK.out) (by omega)) (by omega) t).mono ?_
  rintro e w5 ⟨a3, c3, rfl, ho3, hb5⟩
  have HO3 := hidI ho3
  have HB5 := hidI hb5
  clear ho3 hb5
  have HB25 := hidI (HB24.out.trans (HB5.out.mono HB24.out.size))
  have HBW5 := hidI (HB2.out.trans (HB25.out.mono HB2.out.size))
  go_wp2_with fail
  refine (rof_any (Rd.below HA.out HBW5.out) (by omega)).mono ?_
  rintro e w6 ⟨a4, c4, ps4, hp4, rfl, ho4, hb6⟩
  have HP4 := hidI hp4
  have HO4 := hidI ho4
  have HB6 := hidI hb6
  clear hp4 ho4 hb6
  have HBW6 := hidI (HBW5.out.trans (HB6.out.mono HBW5.out.size))
  go_wp2_with fail
  refine (rlocals_any (Rd.below HA.out HBW6.out) (by omega) t).mono ?_
  rintro e w7 ⟨a5, c5, rfl, ho5, hb7⟩
  have HO5 := hidI ho5
  have HB7 := hidI hb7
  clear ho5 hb7
  have HB37 := hidI (HB4.out.trans (HB5.out.mono HB4.out.size))
  have HB47 := hidI (HB5.out.trans (HB6.out.mono HB5.out.size))
  have HB57 := hidI (HB6.out.trans (HB7.out.mono HB6.out.size))
  have HBW7 := hidI (HBW6.out.trans (HB7.out.mono HBW6.out.size))
  have LS := hidI (show w1.heap.size ≤ w2.heap.size ∧ w2.heap.size ≤ w3.heap.size ∧ w3.heap.size ≤ w4.heap.size ∧ w4.heap.size ≤ w5.heap.size ∧ w5.heap.size ≤ w6.heap.size ∧ w6.heap.size ≤ w7.heap.size from
    ⟨by have h1 := HGL.out; have h2 := HG.out; omega, HB3.out.size, HB4.out.size, HB5.out.size, HB6.out.size, HB7.out.size⟩)
  have RL := hidI (fun k (hk : ownsPs (.slice a1 ps1.length c1) ps1 k) => HO1.out.from hk)
  have RM := hidI (fun k (hk : ownsPs (.slice a2 ps2.length c2) ps2 k) => HO2.out.from hk)
  have RP := hidI (fun k (hk : (Value.slice a3 (locV evs t).length c3).ownBlock = some k) => rowLt HO3.out hk)
  have O1 := hidI ((((HO1.out.keep HB4.out).keep HB5.out).keep HB6.out).keep HB7.out)
  have O2 := hidI (((HO2.out.keep HB5.out).keep HB6.out).keep HB7.out)
  have O3 := hidI (ownRow_keep (ownRow_keep HO3.out (fun k _ hl => HB6.out.block k hl)) (fun k _ hl => HB7.out.block k hl))
  have O4 := hidI (HO4.out.keep HB7.out)
  have hblk7 := blk HB57.out (blk HB25.out HBLK.out)
  have HBK7 := hidI hblk7
  clear hblk7
  have F1 := hidI (Owned.facts HP1.out)
  have F2 := hidI (Owned.facts HP2.out)
  have LV := hidI (locV_len evs t)
  go_wp2_with fail
  refine (sameAttempts_true O1.out O4.out rfl rfl (HP1.out.trans HP4.out.symm) (by have := F1.out.1; omega) (fun j p hp => by have := F1.out.2 j p hp; omega)).mono ?_
  rintro e w8 ⟨rfl, hb8⟩
  have HB8 := hidI hb8
  clear hb8
  go_wp2_with fail
  refine (sameAttempts_true (O2.out.keep HB8.out) (O4.out.keep HB8.out) rfl rfl (HP2.out.trans HP4.out.symm) (by have := F2.out.1; omega) (fun j p hp => by have := F2.out.2 j p hp; omega)).mono ?_
  rintro e w9 ⟨rfl, hb9⟩
  have HB9 := hidI (HB8.out.trans (hb9.mono HB8.out.size))
  clear hb9
  go_wp2_with fail
  refine (sameNumbers_true (l := locV evs t) (Rd.below (Rd.of_own O3.out) HB9.out) (Rd.below (Rd.of_own HO5.out) HB9.out) (by have := LV.out; omega)).mono ?_
  rintro e w10 ⟨rfl, hb10⟩
  have HB10 := hidI (HB9.out.trans (hb10.mono HB9.out.size))
  clear hb10
  have HBW10 := hidI (HBW7.out.trans (HB10.out.mono HBW7.out.size))
  go_wp2_with fail
  refine (leftEvents_true (l := evs) (blk HB10.out HBK7.out) (Rd.below HA.out HBW10.out) (by omega)).mono ?_
  rintro e w11 ⟨rfl, hb11⟩
  have HB11 := hidI (HB10.out.trans (hb11.mono HB10.out.size))
  clear hb11
  have HBW11 := hidI (HBW7.out.trans (HB11.out.mono HBW7.out.size))
  have hst := book_store w11
  go_wp2_with fail
  clear hst hz1 hz2
  obtain ⟨hkb, hbd, hsz12⟩ := book_fresh w11
  generalize ((w11.alloc (.cells zeroBook 60)).setCells w11.heap.size 0 zeroBook.toList) = w12 at hkb hbd hsz12 ⊢
  have HB12 := hidI (HB11.out.trans (hbd.mono HB11.out.size))
  have HBW12 := hidI (HBW7.out.trans (HB12.out.mono HBW7.out.size))
  have K0 : Hid (BkTell w12 w.heap.size w11.heap.size 0 (fun _ => False)) := hidI (BkTell.nil hkb)
  have LB := hidI (show w7.heap.size ≤ w11.heap.size ∧ w11.heap.size < w12.heap.size from ⟨HB11.out.size, hsz12⟩)
  clear hkb hbd hsz12
  have LW := hidI (show w.heap.size ≤ w1.heap.size from HB1.out.size)
  have P1 := hidI ((O1.out.keep HB12.out).mono (base' := w.heap.size) (by have := LS.out; have := LW.out; omega))
  have P2 := hidI ((O2.out.keep HB12.out).mono (base' := w.heap.size) (by have := LS.out; have := LW.out; omega))
  have P3 := hidI (ownsRow_mono (base' := w.heap.size) (ownRow_keep O3.out (fun k _ hl => HB12.out.block k hl)) (by have := LS.out; have := LW.out; omega))
  have PQ := hidI (blk HB12.out HBK7.out)
  have KA1 := hidI (attemptsKeep_any K0.out P1.out (fun k hk => ⟨id, by have := RL.out k hk; have := LS.out; have := LB.out; omega⟩) (by have := F1.out.1; omega) (by have := F1.out.1; omega) (fun j p hp => by have := F1.out.2 j p hp; omega) (by have := LS.out; have := LB.out; have := LW.out; omega))
  refine KA1.out.mono ?_
  rintro e w13 ⟨rfl, hk, hc⟩
  have K1 : Hid (BkTell w13 w.heap.size w11.heap.size (ps1.length + 1) (fun k => (w2.heap.size ≤ k ∧ k < w3.heap.size) ∨ w12.heap.size ≤ k)) := hidI (by
    have := hk.wide (O' := fun k => (w2.heap.size ≤ k ∧ k < w3.heap.size) ∨ w12.heap.size ≤ k) (fun k hk => by
      rcases hk with hk | hk | hk
      · exact hk.elim
      · exact .inr hk
      · exact .inl (RL.out k hk))
    rwa [Nat.zero_add] at this)
  have hc1 : ∀ k, (k = w11.heap.size ∨ False ∨ ownsPs (.slice a1 ps1.length c1) ps1 k) → k = w11.heap.size ∨ (w2.heap.size ≤ k ∧ k < w3.heap.size) := fun k hk => by
    rcases hk with hk | hk | hk
    · exact .inl hk
    · exact hk.elim
    · exact .inr (RL.out k hk)
  have Q2 := hidI (P2.out.chg hc (fun k hk e => by have := RM.out k hk; have := LS.out; have := LB.out; rcases hc1 k e with e | e <;> omega))
  have Q3 := hidI (ownsRow_chg P3.out hc (fun k hk e => by have := RP.out k hk; have := LS.out; have := LB.out; rcases hc1 k e with e | e <;> omega))
  have QQ := hidI (chgblk hc PQ.out (fun e => by have := HGL.out; have := LS.out; have := LB.out; rcases hc1 g e with e | e <;> omega))
  have HBW13 := hidI (Chg.below HBW12.out HBW12.out.size hc (fun k hk => by have := LS.out; have := LB.out; have := LW.out; rcases hc1 k hk with e | e <;> omega))
  have LC := hidI (show w12.heap.size ≤ w13.heap.size from hc.size)
  clear hk hc hc1 KA1 K0
  have KA2 := hidI (attemptsKeep_any K1.out Q2.out (fun k hk => by have := RM.out k hk; have := LS.out; have := LB.out; refine ⟨fun e => ?_, by omega⟩; rcases e with e | e <;> omega) (by have := F1.out.1; have := F2.out.1; omega) (by have := F2.out.1; omega) (fun j p hp => by have := F2.out.2 j p hp; omega) (by have := LS.out; have := LB.out; have := LW.out; have := LC.out; omega))
  go_wp2_with fail
  refine KA2.out.mono ?_
  rintro e w14 ⟨rfl, hk, hc⟩
  have K2 : Hid (BkTell w14 w.heap.size w11.heap.size (ps1.length + 1 + ps2.length + 1) (fun k => (w2.heap.size ≤ k ∧ k < w4.heap.size) ∨ w12.heap.size ≤ k)) := hidI (hk.wide (fun k hk => by
    have := LS.out; have := LC.out
    rcases hk with (hk | hk) | hk | hk
    · exact .inl ⟨hk.1, by omega⟩
    · exact .inr hk
    · exact .inr (by omega)
    · have := RM.out k hk; exact .inl ⟨by omega, this.2⟩))
  have hc1 : ∀ k, (k = w11.heap.size ∨ ((w2.heap.size ≤ k ∧ k < w3.heap.size) ∨ w12.heap.size ≤ k) ∨ ownsPs (.slice a2 ps2.length c2) ps2 k) → k = w11.heap.size ∨ (w2.heap.size ≤ k ∧ k < w4.heap.size) ∨ w12.heap.size ≤ k := fun k hk => by
    have := LS.out
    rcases hk with hk | (hk | hk) | hk
    · exact .inl hk
    · exact .inr (.inl ⟨hk.1, by omega⟩)
    · exact .inr (.inr hk)
    · have := RM.out k hk; exact .inr (.inl ⟨by omega, this.2⟩)
  have R3 := hidI (ownsRow_chg Q3.out hc (fun k hk e => by have := RP.out k hk; have := LS.out; have := LB.out; rcases hc1 k e with e | e | e <;> omega))
  have RQ := hidI (chgblk hc QQ.out (fun e => by have := HGL.out; have := LS.out; have := LB.out; rcases hc1 g e with e | e | e <;> omega))
  have HBW14 := hidI (Chg.below HBW13.out HBW13.out.size hc (fun k hk => by have := LS.out; have := LB.out; have := LW.out; rcases hc1 k hk with e | e | e <;> omega))
  have LD := hidI (show w13.heap.size ≤ w14.heap.size from hc.size)
  clear hk hc hc1 KA2 K1
  have KA3 := hidI (numbersKeep_any K2.out (by have := F1.out.1; have := F2.out.1; omega) (by have := LV.out; omega) R3.out (fun k hk => by have := RP.out k hk; have := LS.out; have := LB.out; refine ⟨fun e => ?_, by omega⟩; rcases e with e | e <;> omega) (by have := LS.out; have := LB.out; have := LW.out; have := LC.out; have := LD.out; omega))
  go_wp2_with fail
  refine KA3.out.mono ?_
  rintro e w15 ⟨rfl, hk, hc⟩
  have K3 : Hid (BkTell w15 w.heap.size w11.heap.size (ps1.length + 1 + ps2.length + 1 + 1) (fun k => (w2.heap.size ≤ k ∧ k < w5.heap.size) ∨ w12.heap.size ≤ k)) := hidI (hk.wide (fun k hk => by
    have := LS.out; have := LC.out; have := LD.out
    rcases hk with (hk | hk) | hk | hk
    · exact .inl ⟨hk.1, by omega⟩
    · exact .inr hk
    · exact .inr (by omega)
    · have := RP.out k hk; exact .inl ⟨by omega, this.2⟩))
  have SQ := hidI (chgblk hc RQ.out (fun e => by have := HGL.out; have := LS.out; have := LB.out; rcases e with e | e | e <;> omega))
  have HBW15 := hidI (Chg.below HBW14.out HBW14.out.size hc (fun k hk => by have := LS.out; have := LB.out; have := LW.out; rcases hk with e | e | e <;> omega))
  have LE := hidI (show w14.heap.size ≤ w15.heap.size from hc.size)
  clear hk hc KA3 K2
  have hqrow : w15.ownsRow w.heap.size 126 4 (.slice (some ⟨g, 0, none⟩) evs.length (evs.length + 2)) evs.length (evs.flatMap encEv) := by
    have h9 := SQ.out
    rw [List.flatMap_append] at h9
    refine own_of_block h9 (by have := HG.out; have := LW.out; omega) (by unfold maxLen; omega) (by omega) (flat_len encEv_len evs) ?_
    rw [List.length_append, flat_len encEv_len, flat_len encEv_len]
    simp only [List.length_cons, List.length_nil]
    omega
  have KA4 := hidI (eventsKeep_any K3.out (by have := F1.out.1; have := F2.out.1; omega) (by omega) hqrow (fun k hk => by
    simp only [Value.ownBlock, Option.some.injEq] at hk
    have := HGL.out; have := LS.out; have := LB.out
    refine ⟨fun e => ?_, by omega⟩
    rcases e with e | e <;> omega) (by have := LS.out; have := LB.out; have := LW.out; have := LC.out; have := LD.out; have := LE.out; omega))
  clear hqrow
  go_wp2_with fail
  refine KA4.out.mono ?_
  rintro e w16 ⟨rfl, hk, hc⟩
  have K4 : Hid (BkTell w16 w.heap.size w11.heap.size (ps1.length + 1 + ps2.length + 1 + 1 + 1) (fun k => w.heap.size ≤ k)) := hidI (hk.wide (fun k hk => by
    have := LS.out; have := LW.out; have := LC.out; have := LD.out; have := LE.out; have := LB.out
    rcases hk with (hk | hk) | hk | hk
    · omega
    · omega
    · omega
    · simp only [Value.ownBlock, Option.some.injEq] at hk; have := HG.out; omega))
  have HBW16 := hidI (Chg.below HBW15.out HBW15.out.size hc (fun k hk => by have := LS.out; have := LB.out; have := LW.out; rcases hk with e | e | e <;> omega))
  clear hk hc KA4 K3
  have KA5 := hidI (bkTell_apart K4.out)
  go_wp2_with fail
  refine KA5.out.mono ?_
  rintro e w17 ⟨rfl, hc⟩
  have HBW17 := hidI (Chg.below HBW16.out HBW16.out.size hc (fun k hk => hk))
  clear hc KA5 K4
  go_wp2_with fail
  refine (alive_any _).mono ?_
  rintro e w18 ⟨rfl, hb⟩
  have HBW18 := hidI (HBW17.out.trans (hb.mono HBW17.out.size))
  clear hb
  go_wp2_with fail
  go_ret
  exact ⟨rfl, HBW18.out⟩
end Go.Proofs.YtilkpmjkiohfdaaGreatDoor

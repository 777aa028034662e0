/- Package tso: Copy. -/
import Derived.Test.YthmmbldhbdnfpaaGreatDoorTsoQ2
import Derived.Test.YthmmbldhbdnfpaaGreatDoorMTsoU
import Derived.Test.YthmmbldhbdnfpaaGreatDoorMTsoW
import Derived.Test.YthmmbldhbdnfpaaGreatDoorTsoCq
import Derived.Deep.RegionHeld3
namespace Go.Proofs.YthmmbldhbdnfpaaGreatDoor
open Go.RowKit
set_option linter.unusedVariables false
set_option linter.unusedSimpArgs false

variable {w w' : World} {base b : Nat} {own own' : Nat → Nat} {mm : MM} {xs : List TX} {mv tv ev : Value}

/-- what Copy hands back: a machine of its own, over the same code -/
def CopyPost (base : Nat) (own : Nat → Nat) (mm : MM) (w : World) (e : Ending) (w' : World) : Prop :=
  ∃ b' own' ys mv tv ev, e = .returned (.pointer (some ⟨b', 0, none⟩)) ∧ MAt w' base b' own' mm ys mv tv ev ∧ (∀ k, k < w.heap.size → own' k = if 5 ≤ own k ∧ own k % 3 = 2 then own k else 0) ∧ Below w.heap.size w w'

/-- a round's end: the ring's pointer is written -/
theorem CpAt.more {w0 w5 wa w8 : World} {x : TX} {V : Value} {g3 p3 rb k b' : Nat} {ys : List TX} (h : CpAt w0 w5 own mm xs ys k b' mv (.slice (some ⟨g3, 0, none⟩) xs.length p3) ev) (hx : xs[k]? = some x) (hyx : ys[k]? = some x)
    (hrow : wa.ownsRow w0.heap.size 112 13 (.slice (some ⟨g3, 0, none⟩) xs.length p3) xs.length ((ys.set k { x with ov := V }).flatMap encX)) (ho : wa.ownsRow w5.heap.size 2 1 V x.th.out.length (x.th.out.flatMap encI))
    (hold : ∀ g, g < w5.heap.size → g ≠ g3 → wa.heap[g]? = w5.heap[g]?) (hkeep : ∀ g, g < wa.heap.size → w8.heap[g]? = wa.heap[g]?) (hr : ∃ c f, Ring w8 rb x.th.wait c f) (hsa : w5.heap.size ≤ wa.heap.size) (hge : wa.heap.size ≤ rb)
    (hg3 : g3 < w5.heap.size) (hg3w : w0.heap.size ≤ g3) (hb : Below w0.heap.size w0 w8) (hs : wa.heap.size ≤ w8.heap.size) :
    ∃ own ys, CpAt w0 (w8.setCell ⟨g3, k * 13 + 10, none⟩ (.pointer (some ⟨rb, 0, none⟩))) own mm xs ys (k + 1) b' mv (.slice (some ⟨g3, 0, none⟩) xs.length p3) ev := by
  have hrow8 := (rowSet (j := 10) (x := { x with ov := V }) (y := { x with bb := rb, ov := V }) (u := .pointer (some ⟨rb, 0, none⟩)) encX_len (ownRow_keep hrow fun g hg hl => hkeep g hl) (set_at hyx _) rfl (by decide)).2
  rw [List.set_set] at hrow8
  obtain ⟨c9, f9, hr9⟩ := hr
  refine ⟨_, _, h.next hx (fun g hg hne => ?_) (by rw [h.len]; exact hrow8) ⟨_, _, hr9.keep (Below.heap_setCell _ _ _ _ (by simp only; omega))⟩ (Nat.le_trans hsa hge) (ownsRow_mono (ownRow_keep ho fun g hg hl => ?_) h.old.size) (fun g hg => ⟨(rowLt ho hg).1, by have := (rowLt ho hg).2; omega⟩) (hb.setCell hg3w _) (by rw [heapSize_setCell]; omega)⟩
  · have hn3 : g ≠ g3 := fun e => hne (by subst e; rfl)
    exact (Below.heap_setCell _ _ _ _ hn3).trans ((hkeep g (by omega)).trans (hold g hg hn3))
  · have := (rowLt ho hg).1
    exact (Below.heap_setCell _ _ _ _ (by simp only; omega)).trans (hkeep g hl)

set_option maxRecDepth 100000 in
set_option maxHeartbeats 2000000 in
theorem copy_any (h : MAt w base b own mm xs mv tv ev) (hk : MOk 1000000000 mm) :
    Calls Tryz.prog 17 #[.pointer (some ⟨b, 0, none⟩)] w (CopyPost base own mm w) := by
  obtain ⟨mo, mc, rfl⟩ := ownsRow_shape h.mem
  obtain ⟨to, tc, rfl⟩ := ownsRow_shape h.ths
  obtain ⟨eo, ec, rfl⟩ := ownsRow_shape h.evs
  have c0 := h.wcell 0 _ rfl
  have c1 := h.wcell 1 _ rfl
  have c2 := h.wcell 2 _ rfl
  have c3 := h.wcell 3 _ rfl
  have H := hidI h
  have HK := hidI hk
  clear h hk
  go_enter Tryz.func17, Tryz.ntmps17
  have h4 : xs.length ≤ 4 := by rw [← ths_len H.out.same]; exact HK.out.four
  have hone : ∀ x ∈ xs, x.cv.oneCell' = true ∧ x.ov.oneCell' = true := fun x hx => by
    obtain ⟨i, hi⟩ := List.getElem?_of_mem hx
    have ht := H.out.th i x hi
    obtain ⟨a1, b1, e1⟩ := ht.code.shape
    obtain ⟨a2, b2, e2⟩ := ownsRow_shape ht.out
    rw [e1, e2]
    exact ⟨rfl, rfl⟩
  have HONE := hidI hone
  have H4 := hidI h4
  have hbw := H.out.lt
  have HBW := hidI hbw
  clear hone h4 hbw
  go_wp2_with fail
  go_region_held3 (fun W => W.cell? ⟨b, 1, none⟩ = some (.slice mo mm.mem.length mc) ∧ W.cell? ⟨b, 2, none⟩ = some (.slice to xs.length tc) ∧ W.cell? ⟨b, 3, none⟩ = some (.slice eo mm.evs.length ec)) (refine ⟨?_, ?_, ?_⟩ <;> first | assumption | (simp only [World.cell?_drew]; assumption) | exact cell_allocU q1 _ | exact cell_allocU q2 _ | exact cell_allocU q3 _) (first | (go_at_call 59; refine (cloneInts_any (w := w.drew) (Rd.of_own H.out.drew.mem) (by have := HK.out.mem; omega)).mono ?_; rintro e w1 ⟨cv1, rfl, ho1, hb1⟩; obtain ⟨a1, p1, rfl⟩ := ownsRow_shape ho1; have q1 := (World.cell?_of_block (hb1.block b HBW.out)).trans c1; have q2 := (World.cell?_of_block (hb1.block b HBW.out)).trans c2; have q3 := (World.cell?_of_block (hb1.block b HBW.out)).trans c3; have HO1 := hidI ho1; have HB1 : Hid (Below w.heap.size w w1) := hidI ((Below.refl w.heap.size w).drew.trans hb1); clear ho1 hb1; dsimp only) | (go_at_call 60; refine (cloneEvs_any (w := w1) (Rd.below (Rd.of_own H.out.evs) HB1.out) HK.out.evs).mono ?_; rintro e w2 ⟨cv2, rfl, ho2, hb2⟩; obtain ⟨a2, p2, rfl⟩ := ownsRow_shape ho2; have HB2 := hidI (bnext HB1.out hb2); have q1 := (World.cell?_of_block (HB2.out.block b HBW.out)).trans c1; have q2 := (World.cell?_of_block (HB2.out.block b HBW.out)).trans c2; have q3 := (World.cell?_of_block (HB2.out.block b HBW.out)).trans c3; have HO2 := hidI ho2; have HK2 := hidI hb2; clear ho2 hb2; dsimp only) | (go_at_call 61; refine (cloneThs_any (w := w2) (Rd.below (Rd.of_own H.out.ths) HB2.out) HONE.out (by have := H4.out; omega)).mono ?_; rintro e w3 ⟨cv3, rfl, ho3, hb3⟩; obtain ⟨a3, p3, rfl⟩ := ownsRow_shape ho3; have HB3 := hidI (bnext HB2.out hb3); have q1 := (World.cell?_of_block (HB3.out.block b HBW.out)).trans c1; have q2 := (World.cell?_of_block (HB3.out.block b HBW.out)).trans c2; have q3 := (World.cell?_of_block (HB3.out.block b HBW.out)).trans c3; have HO3 := hidI ho3; have HK3 := hidI hb3; clear ho3 hb3; dsimp only))
  have hcp := CpAt.start (w0 := w) HO1.out HO2.out HO3.out HB1.out HK2.out HK3.out
  have HCP := hidI hcp
  clear hcp
  go_wp2_with fail
  go_loopw [40] (fun i w' => ∃ k : Nat, k ≤ xs.length ∧ i = .int .i64 (k : Int) ∧ Hid (∃ own ys, CpAt w w' own mm xs ys k w3.heap.size (.slice a1 mm.mem.length p1) (.slice a3 xs.length p3) (.slice a2 mm.evs.length p2))) (fun i _ => ((xs.length : Int) - intOf i).toNat)
  case atStart => exact ⟨0, by omega, rfl, ⟨_, _, HCP.out⟩⟩
  case round =>
    obtain ⟨k, hk, rfl, HR⟩ := hrel
    obtain ⟨own1, ys, hcp⟩ := HR.out
    clear HR
    by_cases hlt : k < xs.length
    · obtain ⟨x, hx⟩ := some_at hlt
      have hyx := (hcp.rest k (Nat.le_refl _)).trans hx
      have b2' : wr.cell? ⟨w3.heap.size, 2, none⟩ = some (.slice a3 xs.length p3) := cell_of_block hcp.blk rfl
      have hxt := H.out.th k x hx
      obtain ⟨oo, oc, hov⟩ := ownsRow_shape hxt.out
      have hths := hcp.ths
      rw [hcp.len] at hths
      obtain ⟨g3, cur3, hg3, -, hblk3, -⟩ := ownsRow_some hths (by omega)
      subst hg3
      obtain ⟨gx, ox, ex, hgx, hcc⟩ := RdT.at encX_len (by have h9 := Rd.of_own hcp.ths; rw [hcp.len] at h9; unfold RdT; rw [hcp.len]; exact h9) hyx
      cases ex
      have k10 := hcc 10 _ rfl
      have k11 := hcc 11 _ rfl
      simp only [Nat.zero_add] at k10 k11
      rw [hov] at k11
      have hout : RdT encI w 1 (.slice oo x.th.out.length oc) x.th.out := by have h9 := Rd.of_own hxt.out; rw [hov] at h9; exact h9
      have hol := (HK.out.th x.th (List.mem_of_getElem? (H.out.th_at hx))).out
      have HCP := hidI hcp
      have HTHS := hidI hths
      have HX := hidI hx
      have HYX := hidI hyx
      have HOUT := hidI (Rd.below hout hcp.old)
      have HOL := hidI hol
      have HBK := hidI hblk3
      obtain ⟨w5, rfl⟩ : ∃ q, q = wr := ⟨_, rfl⟩
      have f11 := free_of_block (o := k * 13 + 11) hblk3
      clear hcc hcp hx hyx hout hol hxt hths
      go_wp2_with fail
      refine (cloneInts_any HOUT.out HOL.out).mono ?_
      rintro e w6 ⟨cv, rfl, ho6, hb6⟩
      obtain ⟨co, cp, rfl⟩ := ownsRow_shape ho6
      have hbk6 := (hb6.block g3 (lt_of_block HBK.out)).trans HBK.out
      have f11' := free_of_block (o := k * 13 + 11) hbk6
      have k10' := (World.cell?_of_block (hb6.block g3 (lt_of_block HBK.out))).trans k10
      have k11' := (World.cell?_of_block (hb6.block g3 (lt_of_block HBK.out))).trans k11
      have HO6 := hidI ho6
      have HB6 := hidI hb6
      have HBK6 := hidI hbk6
      have hrow6 := (rowSet (j := 11) (y := { x with ov := .slice co x.th.out.length cp }) (u := .slice co x.th.out.length cp) encX_len (ownRow_keep HTHS.out fun g hg hl => hb6.block g hl) HYX.out rfl (by decide)).2
      have HROW6 := hidI hrow6
      clear ho6 hb6 hbk6 hrow6
      go_wp2_with fail
      have hg3l : g3 < w5.heap.size := lt_of_block HBK.out
      have hg3w : w.heap.size ≤ g3 := (rowLt HTHS.out rfl).1
      have ho6a : (w6.setCell ⟨g3, k * 13 + 11, none⟩ (.slice co x.th.out.length cp)).ownsRow w5.heap.size 2 1 (.slice co x.th.out.length cp) x.th.out.length (x.th.out.flatMap encI) :=
        ownRow_keep HO6.out fun g hg hl => Below.heap_setCell _ _ _ _ (fun e => by have := (rowLt HO6.out hg).1; simp only at e; omega)
      have hold6 : ∀ g, g < w5.heap.size → g ≠ g3 → (w6.setCell ⟨g3, k * 13 + 11, none⟩ (.slice co x.th.out.length cp)).heap[g]? = w5.heap[g]? := fun g hg hne => (Below.heap_setCell _ _ _ _ hne).trans (HB6.out.block g hg)
      have hbwa : Below w.heap.size w (w6.setCell ⟨g3, k * 13 + 11, none⟩ (.slice co x.th.out.length cp)) := (bnext HCP.out.old HB6.out).setCell hg3w _
      have hsza : w5.heap.size ≤ (w6.setCell ⟨g3, k * 13 + 11, none⟩ (.slice co x.th.out.length cp)).heap.size := by rw [heapSize_setCell]; exact HB6.out.size
      have hbka := block_setCell (o := k * 13 + 11) (.slice co x.th.out.length cp) HBK6.out
      have k10a : (w6.setCell ⟨g3, k * 13 + 11, none⟩ (.slice co x.th.out.length cp)).cell? ⟨g3, k * 13 + 10, none⟩ = some (.pointer (some ⟨x.bb, 0, none⟩)) := by
        obtain ⟨bq, oq, eq, -, hq⟩ := RdT.at encX_len (by unfold RdT; rw [List.length_set, HCP.out.len]; exact Rd.of_own HROW6.out) (set_at HYX.out { x with ov := .slice co x.th.out.length cp })
        cases eq
        have := hq 10 _ rfl
        simpa using this
      generalize w6.setCell ⟨g3, k * 13 + 11, none⟩ (.slice co x.th.out.length cp) = wa at *
      have HROWA := hidI HROW6.out
      have HOA := hidI ho6a
      have HOLDA := hidI hold6
      have HBWA := hidI hbwa
      have HSZA := hidI hsza
      have HBKA := hidI hbka
      clear ho6a hold6 hbwa hsza hbka HROW6 HBK6 HB6 HO6 k10' k11' f11 f11' k10 k11
      refine (new_l wa).mono ?_
      rintro e wb ⟨rb, cb, fb, rfl, hrb, hbb, hge⟩
      obtain ⟨cr, fr, hring⟩ := (H.out.th k x HX.out).ring
      have hwait := (HK.out.th x.th (List.mem_of_getElem? (H.out.th_at HX.out))).full
      have hbwb : Below w.heap.size w wb := bnext HBWA.out hbb
      have k10b := (World.cell?_of_block (hbb.block g3 (lt_of_block HBKA.out))).trans k10a
      have HRG := hidI (hring.below hbwb)
      have HRB := hidI hrb
      have HBB := hidI hbb
      have HGE := hidI hge
      have HWT := hidI hwait
      have HBWB := hidI hbwb
      clear hrb hbb hge hring hwait hbwb
      have K10 := hidI k10a
      clear k10a
      go_wp2_with fail
      refine (all_yes HRG.out).mono ?_
      rintro e wc ⟨gl, rfl, hol, hbc⟩
      have hgl : wb.heap.size ≤ gl := (rowLt hol rfl).1
      have HGL := hidI hgl
      clear hgl
      have HOLL := hidI (Rd.of_own hol)
      have HBC := hidI hbc
      have HRC := hidI (HRB.out.below hbc)
      have hrbl := HRB.out.lt
      have HRBL := hidI hrbl
      clear hol hbc HRB HRG k10b hrbl
      go_wp2_with fail
      go_loopw [64] (fun i w' => ∃ j : Nat, j ≤ x.th.wait.length ∧ i = .int .i64 (j : Int) ∧ Hid (∃ c f, Ring w' rb (x.th.wait.take j) c f) ∧ Hid (Chg (fun g => g = rb) wc w')) (fun i _ => ((x.th.wait.length : Int) - intOf i).toNat)
      case atStart => exact ⟨0, by omega, rfl, ⟨_, _, by simpa using HRC.out⟩, hidI (Chg.refl _ _)⟩
      case round =>
        obtain ⟨j, hj, rfl, HRJ, HCJ⟩ := hrel
        by_cases hlj : j < x.th.wait.length
        · obtain ⟨c, hc⟩ := some_at hlj
          obtain ⟨b1, o1, e1, hs1, hc1⟩ := RdT.at encCell_len (Rd.chg HOLL.out HCJ.out (fun g hg e => by simp only [Value.ownBlock, Option.some.injEq] at hg; subst hg; subst e; have := HGL.out; have := HRBL.out; omega)) hc
          cases e1
          have h0c := hc1 0 _ rfl
          have h1c := hc1 1 _ rfl
          simp only [Nat.zero_add, Nat.add_zero] at h0c h1c
          obtain ⟨w7, rfl⟩ : ∃ q, q = wr := ⟨_, rfl⟩
          have hrl := HRJ.out
          have hw64 := HWT.out
          clear hc1 hs1
          go_wp2_with fail
          obtain ⟨c9, f9, hr9⟩ := hrl
          refine (put_some (hr9.below ((Below.refl _ _).alloc (Nat.le_refl _) _)) (by rw [List.length_take]; have := HWT.out; omega) c.1 c.2).mono ?_
          rintro e w8 ⟨rfl, ⟨c', hr⟩, hcg, hs⟩
          have HR8 := hidI hr
          have HC8 := hidI (Chg.trans (Chg.trans HCJ.out (Chg.of_below ((Below.refl _ _).alloc (Nat.le_refl _) _))) hcg)
          clear hr hcg hs hr9
          go_wp2_with fail
          exact ⟨⟨j + 1, by omega, by go_num, hidI ⟨_, _, by rw [take_snoc hc]; exact HR8.out⟩, HC8⟩, by simp [intOf]; omega⟩
        · obtain rfl : j = x.th.wait.length := by omega
          obtain ⟨w8, rfl⟩ : ∃ q, q = wr := ⟨_, rfl⟩
          have hkeep : ∀ g, g < wa.heap.size → w8.heap[g]? = wa.heap[g]? := fun g hg => by
            have z1 := HBB.out.size
            have z2 := HBC.out.size
            have z3 := HGE.out
            exact (HCJ.out.block g (by omega) (by omega)).trans ((HBC.out.block g (by omega)).trans (HBB.out.block g hg))
          have hg3a : g3 < wa.heap.size := lt_of_block HBKA.out
          have hbk8 := (hkeep g3 hg3a).trans HBKA.out
          have f10 := free_of_block (o := k * 13 + 10) hbk8
          have k10c := (World.cell?_of_block (hkeep g3 hg3a)).trans K10.out
          obtain ⟨c9, f9, hr9⟩ := HRJ.out
          rw [List.take_length] at hr9
          have hbw8 : Below w.heap.size w w8 := (bnext HBWB.out HBC.out).trans (HCJ.out.to_below (by have := (bnext HBWB.out HBC.out).size; exact this) (fun g e => by have := HGE.out; omega))
          have hs8 : wa.heap.size ≤ w8.heap.size := by
            have z1 := HBB.out.size
            have z2 := HBC.out.size
            have z3 := HCJ.out.size
            omega
          have hmore := HCP.out.more HX.out HYX.out HROWA.out HOA.out HOLDA.out hkeep ⟨_, _, hr9⟩ HSZA.out HGE.out hg3l hg3w hbw8 hs8
          have HMORE := hidI hmore
          have h4 := H4.out
          clear hkeep hmore hr9 hbw8 hbk8 hs8
          go_wp2_with fail
          exact ⟨⟨k + 1, by omega, by go_num, HMORE⟩, by simp [intOf]; omega⟩
    · obtain rfl : k = xs.length := by omega
      have HCP := hidI hcp
      clear hcp
      go_wp2_with fail
      go_ret
      exact ⟨w3.heap.size, _, _, _, _, _, rfl, HCP.out.whole H.out, fun g hg => if_pos hg, HCP.out.old⟩
end Go.Proofs.YthmmbldhbdnfpaaGreatDoor

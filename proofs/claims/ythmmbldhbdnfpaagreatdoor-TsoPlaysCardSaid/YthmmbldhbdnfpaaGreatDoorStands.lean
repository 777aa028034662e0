/- turnstilelaw20: pair.stands, over a machine of the program and one of the document's that stand alike. -/
import Derived.Test.YthmmbldhbdnfpaaGreatDoorLooked
import Derived.Test.YthmmbldhbdnfpaaGreatDoorBkT
import Derived.Test.YthmmbldhbdnfpaaGreatDoorPlayS
import Derived.Deep.RegionHeld3
namespace Go.Proofs.YthmmbldhbdnfpaaGreatDoor
open Go.RowKit
set_option linter.unusedVariables false
set_option linter.unusedSimpArgs false

variable {w w' : World} {base b base2 c N : Nat} {own rown : Nat → Nat} {mm : MM} {xs : List TX} {ys : List RX} {mv tv ev mv2 tv2 ev2 : Value}

theorem seen_len {mm : MM} {ls : List SX} (hk : MOk N mm) (h : ls.map (fun s => (s.out, s.fin)) = mm.ths.map (fun t => (t.out, t.fin))) : ls.length ≤ 4 ∧ ∀ s ∈ ls, s.out.length ≤ N := by
  have hl := congrArg List.length h
  simp only [List.length_map] at hl
  refine ⟨by have := hk.four; omega, fun s hs => ?_⟩
  have h9 : (s.out, s.fin) ∈ mm.ths.map (fun t => (t.out, t.fin)) := by rw [← h]; exact List.mem_map.2 ⟨s, hs, rfl⟩
  obtain ⟨t, ht, he⟩ := List.mem_map.1 h9
  have h8 := (hk.th t ht).out
  simp only [Prod.mk.injEq] at he
  rw [← he.1]
  exact h8

set_option maxRecDepth 100000 in
set_option maxHeartbeats 4000000 in
theorem stands_any (h : MAt w base b own mm xs mv tv ev) (hr : RAt w base2 c rown mm ys mv2 tv2 ev2) (hk : MOk N mm) (hN : N ≤ 1000000) :
    Calls Tryz.prog 20 #[.agg #[.pointer (some ⟨b, 0, none⟩), .pointer (some ⟨c, 0, none⟩)]] w fun e w' => e = .returned (.bool true) ∧ Below w.heap.size w w' := by
  obtain ⟨fo, fc, rfl⟩ := ownsRow_shape hr.evs
  obtain ⟨uo, uc, rfl⟩ := ownsRow_shape hr.ths
  have h4 : xs.length ≤ 4 := by rw [← ths_len h.same]; exact hk.four
  have ho : ∀ x ∈ xs, x.th.out.length ≤ 1000000000 := fun x hx => by
    have := (hk.th x.th (by rw [h.same]; exact List.mem_map_of_mem hx)).out
    omega
  have hev : mm.evs.length ≤ 1000000000 := by have := hk.evs; omega
  have hy4 : ys.length ≤ 4 := by rw [← rths_len hr]; exact hk.four
  have hyl : ys.length = mm.ths.length := (rths_len2 hr).symm
  have hb0 : Below w.heap.size w (w.alloc (.cells #[.pointer (some ⟨b, 0, none⟩), .pointer (some ⟨c, 0, none⟩)] 46)) := (Below.refl _ _).alloc (Nat.le_refl _) _
  have hx0 := block_new w (.cells #[.pointer (some ⟨b, 0, none⟩), .pointer (some ⟨c, 0, none⟩)] 46)
  have H := hidI h
  have R := hidI hr
  have HK := hidI hk
  have H4 := hidI h4
  have HO := hidI ho
  have HE := hidI hev
  have HY4 := hidI hy4
  have HYL := hidI hyl
  have HB0 := hidI hb0
  have HX0 := hidI hx0
  have HNN := hidI hN
  clear h hr hk h4 ho hev hy4 hyl hb0 hx0 hN
  go_enter Tryz.func20, Tryz.ntmps20
  go_wp2_with fail
  generalize w.alloc (.cells #[.pointer (some ⟨b, 0, none⟩), .pointer (some ⟨c, 0, none⟩)] 46) = w0 at HB0 HX0 ⊢
  refine (seen_own0 (H.out.below HB0.out) H4.out HO.out).mono ?_
  rintro e w1 ⟨la, rfl, hra, hea, hpa, hma, hb⟩
  have HLA := hidI (Layer.seen hra (fun s hs => ⟨(hea s hs).1, fun g hg e => by have := (hea s hs).2 g hg; simp only [Value.ownBlock, Option.some.injEq] at e; omega⟩) hpa)
  have HSA : Hid (SeenAt w1 (.slice (some ⟨w0.heap.size, 0, none⟩) la.length la.length) la) := hidI ⟨Rd.of_own hra, fun s hs => Rd.of_own (hea s hs).1⟩
  have HMA := hidI hma
  have HBA := hidI hb
  have HX1 := hidI (blk hb HX0.out)
  have p0 : w1.cell? ⟨w.heap.size, 0, none⟩ = some (.pointer (some ⟨b, 0, none⟩)) := cell_of_block HX1.out rfl
  clear hra hea hpa hma hb
  go_wp2_with fail
  clear p0
  refine (events_any (H.out.below (HB0.out.trans (HBA.out.mono HB0.out.size))) HE.out).mono ?_
  rintro e w2 ⟨va, rfl, hra, hb⟩
  obtain ⟨eao, eac, rfl⟩ := ownsRow_shape hra
  have HLB := hidI (Layer.one (r := evK (.slice eao mm.evs.length eac) mm.evs) hra)
  have HEA := hidI (Rd.of_own hra)
  have HBB := hidI hb
  have HX2 := hidI (blk hb HX1.out)
  have p0 : w2.cell? ⟨w.heap.size, 0, none⟩ = some (.pointer (some ⟨b, 0, none⟩)) := cell_of_block HX2.out rfl
  have HB2 := hidI (bnext HBA.out hb)
  clear hra hb
  go_wp2_with fail
  clear p0
  refine (seen_own0 (H.out.below (HB0.out.trans (HB2.out.mono HB0.out.size))) H4.out HO.out).mono ?_
  rintro e w3 ⟨lc, rfl, hra, hea, hpa, hma, hb⟩
  have HLC := hidI (Layer.seen hra (fun s hs => ⟨(hea s hs).1, fun g hg e => by have := (hea s hs).2 g hg; simp only [Value.ownBlock, Option.some.injEq] at e; omega⟩) hpa)
  have HMC := hidI hma
  have HBC := hidI hb
  have HX3 := hidI (blk hb HX2.out)
  have p0 : w3.cell? ⟨w.heap.size, 0, none⟩ = some (.pointer (some ⟨b, 0, none⟩)) := cell_of_block HX3.out rfl
  have HB3 := hidI (bnext HB2.out hb)
  clear hra hea hpa hma hb
  go_wp2_with fail
  clear p0
  refine (events_any (H.out.below (HB0.out.trans (HB3.out.mono HB0.out.size))) HE.out).mono ?_
  rintro e w4 ⟨va, rfl, hra, hb⟩
  obtain ⟨edo, edc, rfl⟩ := ownsRow_shape hra
  have HLD := hidI (Layer.one (r := evK (.slice edo mm.evs.length edc) mm.evs) hra)
  have HBD := hidI hb
  have hx4 := blk hb HX3.out
  have HX4 := hidI hx4
  have p1 : w4.cell? ⟨w.heap.size, 1, none⟩ = some (.pointer (some ⟨c, 0, none⟩)) := cell_of_block hx4 rfl
  have HB4 := hidI (bnext HB3.out hb)
  have HB14 := hidI (bnext (bnext HBB.out HBC.out) hb)
  have HB24 := hidI (bnext HBC.out hb)
  clear hra hb hx4
  go_wp2_with fail
  clear p1
  refine (rseen_any (R.out.below (HB0.out.trans (HB4.out.mono HB0.out.size))) HY4.out).mono ?_
  rintro e w5 ⟨vr, lr, rfl, hsr, hmr, hb⟩
  obtain ⟨ro, rc, rfl⟩ := hsr.rows.shape
  have HB45 := hidI hb
  have HSR := hidI hsr
  have HMR := hidI hmr
  clear hsr hmr hb
  go_wp2_with fail
  refine (sameSeens_true (ps := la) (qs := lr) ((HSA.out.below HB14.out).below HB45.out) HSR.out rfl rfl (HMA.out.trans HMR.out.symm) (by have := (seen_len HK.out HMA.out).1; omega) (fun s hs => by have := (seen_len HK.out HMA.out).2 s hs; have := HNN.out; omega)).mono ?_
  rintro e w6 ⟨rfl, hb⟩
  have HB46 := hidI (bnext HB45.out hb)
  have hx6 := blk HB46.out HX4.out
  have HX6 := hidI hx6
  have p1 : w6.cell? ⟨w.heap.size, 1, none⟩ = some (.pointer (some ⟨c, 0, none⟩)) := cell_of_block hx6 rfl
  have HB6 := hidI (bnext HB4.out HB46.out)
  have hr6 := R.out.below (HB0.out.trans (HB6.out.mono HB0.out.size))
  have c2 := hr6.wcell 2 _ rfl
  have HR6 := hidI hr6
  clear hb hx6 hr6
  go_wp2_with fail
  clear p1 c2
  refine (sameEvents_eq (l := mm.evs) (Rd.below (Rd.below HEA.out HB24.out) HB46.out) (Rd.of_own HR6.out.evs) rfl rfl (by have := HE.out; omega)).mono ?_
  rintro e w7 ⟨rfl, hb⟩
  have HB47 := hidI (bnext HB46.out hb)
  have HB7 := hidI (bnext HB4.out HB47.out)
  clear hb
  have hl3 : Layer w7 w0.heap.size w4.heap.size ((la.map wideK ++ [seenK (.slice (some ⟨w0.heap.size, 0, none⟩) la.length la.length) la]) ++ ([evK (.slice eao mm.evs.length eac) mm.evs] ++ ((lc.map wideK ++ [seenK (.slice (some ⟨w2.heap.size, 0, none⟩) lc.length lc.length) lc]) ++ [evK (.slice edo mm.evs.length edc) mm.evs]))) := by
    have z1 := HBA.out.size
    have z2 := HBB.out.size
    have z3 := HBC.out.size
    have z4 := HBD.out.size
    exact ((HLA.out.below HB14.out).below HB47.out).app (((HLB.out.below HB24.out).below HB47.out).app (((HLC.out.below HBD.out).below HB47.out).app (HLD.out.below HB47.out) z3 z4) z2 (by omega)) z1 (by omega)
  have hst := BkT.start (ws := []) HB7.out hl3.own hl3.pw (fun p hp => absurd hp (by simp))
  have hfit : (la.map wideK ++ [seenK (.slice (some ⟨w0.heap.size, 0, none⟩) la.length la.length) la]) ++ ([evK (.slice eao mm.evs.length eac) mm.evs] ++ ((lc.map wideK ++ [seenK (.slice (some ⟨w2.heap.size, 0, none⟩) lc.length lc.length) lc]) ++ [evK (.slice edo mm.evs.length edc) mm.evs])) =
    la.map wideK ++ seenK (.slice (some ⟨w0.heap.size, 0, none⟩) la.length la.length) la :: (evK (.slice eao mm.evs.length eac) mm.evs :: (lc.map wideK ++ seenK (.slice (some ⟨w2.heap.size, 0, none⟩) lc.length lc.length) lc :: [evK (.slice edo mm.evs.length edc) mm.evs])) := by simp
  rw [hfit] at hst
  have HST := hidI hst
  have HLEN := hidI (seen_len HK.out HMA.out)
  have HLEN2 := hidI (seen_len HK.out HMC.out)
  have HE2 := hidI (show mm.evs.length ≤ 4000000 from by have := HK.out.evs; have := HNN.out; omega)
  have hy1 := zero_book
  have hy2 := zbook_size
  clear hl3 hst hfit
  go_wp2_with fail
  clear hy1 hy2
  refine (BkT.seen HST.out (by omega) HLEN.out.1 (fun s hs => by have := HLEN.out.2 s hs; have := HNN.out; omega)).mono ?_
  rintro e w8 ⟨rfl, hs⟩
  have HS8 := hidI hs
  clear hs HST
  go_wp2_with fail
  refine (BkT.events HS8.out (by have := HLEN.out.1; omega) HE2.out).mono ?_
  rintro e w9 ⟨rfl, hs⟩
  have HS9 := hidI hs
  clear hs HS8
  go_wp2_with fail
  refine (BkT.seen HS9.out (by have := HLEN.out.1; omega) HLEN2.out.1 (fun s hs => by have := HLEN2.out.2 s hs; have := HNN.out; omega)).mono ?_
  rintro e w10 ⟨rfl, hs⟩
  have HS10 := hidI hs
  clear hs HS9
  go_wp2_with fail
  refine (BkT.events HS10.out (by have := HLEN.out.1; have := HLEN2.out.1; omega) HE2.out).mono ?_
  rintro e w11 ⟨rfl, hs⟩
  obtain ⟨cn, hcn⟩ : ∃ cn, cn = 0 + la.length + 1 + 1 + lc.length + 1 + 1 := ⟨_, rfl⟩
  rw [← hcn] at hs
  have HCN := hidI (show cn ≤ 20 from by have := HLEN.out.1; have := HLEN2.out.1; omega)
  have HS11 := hidI hs
  have hy4 := HY4.out
  clear hs HS10 hcn
  go_wp2_with fail
  go_loopw [8] (fun i w' => ∃ k : Nat, k ≤ ys.length ∧ i = .int .i64 (k : Int) ∧ Hid (BkT w0 w' w7.heap.size (cn + 2 * k) [] [])) (fun i _ => ((ys.length : Int) - intOf i).toNat)
  case atStart => exact ⟨0, by omega, rfl, HS11⟩
  case round =>
    obtain ⟨k, hk, rfl, HS⟩ := hrel
    have hbr := HS.out.old
    have hxr := blk hbr HX0.out
    have p0 : wr.cell? ⟨w.heap.size, 0, none⟩ = some (.pointer (some ⟨b, 0, none⟩)) := cell_of_block hxr rfl
    have p1 : wr.cell? ⟨w.heap.size, 1, none⟩ = some (.pointer (some ⟨c, 0, none⟩)) := cell_of_block hxr rfl
    have c1 := (R.out.below (HB0.out.trans (hbr.mono HB0.out.size))).wcell 1 _ rfl
    have HBR := hidI hbr
    clear hbr hxr
    by_cases hlt : k < ys.length
    · obtain ⟨x, hx⟩ := some_at (l := xs) (k := k) (by have := ths_len H.out.same; have := HYL.out; omega)
      obtain ⟨tb, cap, htv, -⟩ := H.out.tslice hx
      subst htv
      have HX := hidI hx
      have H64 := hidI (HK.out.th x.th (List.mem_of_getElem? (H.out.th_at hx))).full
      clear hx
      go_wp2_with fail
      refine (waiting_yes (tb := tb) (H.out.below (HB0.out.trans (HBR.out.mono HB0.out.size))) HX.out).mono ?_
      rintro e w12 ⟨g1, rfl, hrow, hb⟩
      have HT12 := hidI (HS.out.add (r := cellK (.slice (some ⟨g1, 0, none⟩) x.th.wait.length x.th.wait.length) x.th.wait) hb hrow)
      clear hrow hb
      go_wp2_with fail
      refine (BkT.cells HT12.out (by have := HCN.out; have := HY4.out; omega) (by have := H64.out; omega)).mono ?_
      rintro e w13 ⟨rfl, hs⟩
      have hbr := hs.old
      have hxr := blk hbr HX0.out
      have q0 : w13.cell? ⟨w.heap.size, 0, none⟩ = some (.pointer (some ⟨b, 0, none⟩)) := cell_of_block hxr rfl
      have HS13 := hidI hs
      have HBR13 := hidI hbr
      clear hs hbr hxr HT12 p0 p1 c1
      go_wp2_with fail
      clear q0
      refine (waiting_yes (tb := tb) (H.out.below (HB0.out.trans (HBR13.out.mono HB0.out.size))) HX.out).mono ?_
      rintro e w14 ⟨g2, rfl, hrow, hb⟩
      have HT14 := hidI (HS13.out.add (r := cellK (.slice (some ⟨g2, 0, none⟩) x.th.wait.length x.th.wait.length) x.th.wait) hb hrow)
      clear hrow hb
      go_wp2_with fail
      refine (BkT.cells HT14.out (by have := HCN.out; have := HY4.out; omega) (by have := H64.out; omega)).mono ?_
      rintro e w15 ⟨rfl, hs⟩
      have HS15 := hidI hs
      clear hs HT14
      go_wp2_with fail
      exact ⟨⟨k + 1, by omega, by go_num, HS15⟩, by simp [intOf]; omega⟩
    · obtain rfl : k = ys.length := by omega
      obtain ⟨wq, rfl⟩ : ∃ q, q = wr := ⟨_, rfl⟩
      go_wp2_with fail
      clear p0 p1 c1
      refine HS.out.done.mono ?_
      rintro e w16 ⟨rfl, hb⟩
      have HB16 := hidI hb
      clear hb
      go_wp2_with fail
      go_loopw [9] (fun i w' => ∃ k : Nat, k ≤ ys.length ∧ i = .int .i64 (k : Int) ∧ Hid (Below w0.heap.size w0 w')) (fun i _ => ((ys.length : Int) - intOf i).toNat)
      case atStart => exact ⟨0, by omega, rfl, HB16⟩
      case round =>
        obtain ⟨k, hk, rfl, HW⟩ := hrel
        have hxr := blk HW.out HX0.out
        have p0 : wr.cell? ⟨w.heap.size, 0, none⟩ = some (.pointer (some ⟨b, 0, none⟩)) := cell_of_block hxr rfl
        have p1 : wr.cell? ⟨w.heap.size, 1, none⟩ = some (.pointer (some ⟨c, 0, none⟩)) := cell_of_block hxr rfl
        have HWW := hidI (HB0.out.trans (HW.out.mono HB0.out.size))
        have c1 := (R.out.below HWW.out).wcell 1 _ rfl
        clear hxr
        by_cases hlt : k < ys.length
        · go_wp2_with fail
          refine (looked_any (H.out.below HWW.out) (R.out.below HWW.out) HK.out (k : Int) (k : Int)).mono ?_
          rintro e w17 ⟨rfl, hb⟩
          have HB17 := hidI (HW.out.trans (hb.mono HW.out.size))
          clear hb p0 p1 c1
          go_wp2_with fail
          exact ⟨⟨k + 1, by omega, by go_num, HB17⟩, by simp [intOf]; omega⟩
        · obtain rfl : k = ys.length := by omega
          obtain ⟨w9', rfl⟩ : ∃ q, q = wr := ⟨_, rfl⟩
          have hm9 := H.out.below HWW.out
          have hr9 := R.out.below HWW.out
          have c2 := hr9.wcell 2 _ rfl
          have HM9 := hidI hm9
          have HR9 := hidI hr9
          have HF : Hid (∀ W, Below w9'.heap.size w9' W → W.cell? ⟨w.heap.size, 0, none⟩ = some (.pointer (some ⟨b, 0, none⟩)) ∧ W.cell? ⟨w.heap.size, 1, none⟩ = some (.pointer (some ⟨c, 0, none⟩)) ∧ W.cell? ⟨c, 2, none⟩ = some (.slice fo mm.evs.length fc)) := hidI (fun W hW => ⟨cell_later hW p0, cell_later hW p1, cell_later hW c2⟩)
          have HU := hidI (Below.refl w9'.heap.size w9')
          clear hm9 hr9
          go_wp2_with fail
          go_region_held3 (fun W => W.cell? ⟨w.heap.size, 0, none⟩ = some (.pointer (some ⟨b, 0, none⟩)) ∧ W.cell? ⟨w.heap.size, 1, none⟩ = some (.pointer (some ⟨c, 0, none⟩)) ∧ W.cell? ⟨c, 2, none⟩ = some (.slice fo mm.evs.length fc)) (refine HF.out _ ?_ <;> first | exact HU5.out | exact HU4.out | exact HU3.out | exact HU2.out | exact HU1.out | exact HU.out.drew | exact HU.out) (first
            | (go_at_call 46; refine (seen_own0 (HM9.out.below HU.out.drew) H4.out HO.out).mono ?_; rintro e u1 ⟨l1, rfl, hra, hea, hpa, hma, hb⟩; have HS1 := hidI (show SeenAt u1 _ l1 from ⟨Rd.of_own hra, fun s hs => Rd.of_own (hea s hs).1⟩); have HN1 := hidI hma; have HU1 := hidI (HU.out.drew.trans hb); clear hra hea hpa hma hb; dsimp only)
            | (go_at_call 69; refine (rseen_any (HR9.out.below HU1.out) HY4.out).mono ?_; rintro e u2 ⟨vr2, l2, rfl, hsr, hmr, hb⟩; obtain ⟨ro2, rc2, rfl⟩ := hsr.rows.shape; have HK2 := hidI hb; have HS2 := hidI hsr; have HN2 := hidI hmr; have HU2 := hidI (bnext HU1.out hb); clear hsr hmr hb; dsimp only)
            | (go_at_call 68; refine (sameSeens_true (ps := l1) (qs := l2) (HS1.out.below HK2.out) HS2.out rfl rfl (HN1.out.trans HN2.out.symm) (by have := (seen_len HK.out HN1.out).1; omega) (fun s hs => by have := (seen_len HK.out HN1.out).2 s hs; have := HNN.out; omega)).mono ?_; rintro e u3 ⟨rfl, hb⟩; have HU3 := hidI (bnext HU2.out hb); clear hb; dsimp only)
            | (go_at_call 67; refine (events_any (HM9.out.below HU3.out) HE.out).mono ?_; rintro e u4 ⟨va4, rfl, hra, hb⟩; obtain ⟨o4, c4, rfl⟩ := ownsRow_shape hra; have HE4 := hidI (Rd.of_own hra); have HU4 := hidI (bnext HU3.out hb); clear hra hb; dsimp only)
            | (go_at_call 70; refine (sameEvents_eq (l := mm.evs) HE4.out (Rd.of_own (HR9.out.below HU4.out).evs) rfl rfl (by have := HE.out; omega)).mono ?_; rintro e u5 ⟨rfl, hb⟩; have HU5 := hidI (bnext HU4.out hb); clear hb; dsimp only))
          go_wp2_with fail
          go_ret
          exact ⟨rfl, HWW.out.trans (HU5.out.mono HWW.out.size)⟩
end Go.Proofs.YthmmbldhbdnfpaaGreatDoor

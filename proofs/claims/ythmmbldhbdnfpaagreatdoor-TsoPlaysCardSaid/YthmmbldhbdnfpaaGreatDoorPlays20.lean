/- TsoPlays, walked. (Written by mkplays20.py.) -/
import Derived.Test.YthmmbldhbdnfpaaGreatDoorPl20
import Derived.Test.YthmmbldhbdnfpaaGreatDoorStands
import Derived.Test.YthmmbldhbdnfpaaGreatDoorLooked
import Derived.Test.YthmmbldhbdnfpaaGreatDoorMTsoW
import Derived.Deep.RegionHeld3
import Derived.Deep.CutRange
namespace Go.Proofs.YthmmbldhbdnfpaaGreatDoor
open Go.RowKit
set_option linter.unusedVariables false
set_option linter.unusedSimpArgs false

variable {w w' : World}

set_option maxRecDepth 100000 in
set_option maxHeartbeats 8000000 in
theorem plays20_any {ca cca ao : Option Addr} {ccap ccca acap : Nat} {l : List (Value × List OpD)} {cs : List (Int × Int)} {al : List ActD} {mem : Int} (h : CodeAt w (.slice ca l.length ccap) l) (hc : RdT encCell w 2 (.slice cca cs.length ccca) cs) (ha : RdT encAct w 3 (.slice ao al.length acap) al)
    (hl : l.length ≤ 9223372036854775807) (hcl : cs.length ≤ 9223372036854775807) (hol : ∀ p ∈ l, p.2.length ≤ 9223372036854775807) (hal : al.length ≤ 9223372036854775807) :
    Calls Tryz.prog 3 #[.agg #[.slice ca l.length ccap, .int .i64 mem, .slice cca cs.length ccca], .slice ao al.length acap] w fun e w' => e = .returned (.bool true) ∧ Below w.heap.size w w' := by
  have H := hidI h
  have HC := hidI hc
  have HA := hidI ha
  have HL := hidI hl
  have HCL := hidI hcl
  have HOL := hidI hol
  have HAL := hidI hal
  clear h hc ha hl hcl hol hal
  go_enter Tryz.func3, Tryz.ntmps3
  go_wp2_with fail
  have hb0 : Below w.heap.size w (w.alloc (.cells #[.slice ca l.length ccap, .int .i64 mem, .slice cca cs.length ccca] 25)) := (Below.refl _ _).alloc (Nat.le_refl _) _
  have HB0 := hidI hb0
  have HX0 := hidI (block_new w (.cells #[.slice ca l.length ccap, .int .i64 mem, .slice cca cs.length ccca] 25))
  clear hb0
  refine (imageSize3_any (cca := cca) (ccca := ccca) (cs := cs) (H.out.below HB0.out) mem HL.out HCL.out HOL.out).mono ?_
  rintro e w1 ⟨z, rfl, hz, hzl, hb⟩
  have HZ := hidI hz
  have HZL := hidI hzl
  have HB1 := hidI (bnext HB0.out hb)
  have HX1 := hidI (blk hb HX0.out)
  clear hz hzl hb HB0 HX0
  go_wp2_with fail
  have hbb : Below w1.heap.size w1 (w1.alloc (.cells #[.int .i64 z, .int .i64 (al.length : Int)] 3)) := (Below.refl _ _).alloc (Nat.le_refl _) _
  refine (beyond2 (y := z) (z := (al.length : Int)) (block_new w1 _) (by have := HZ.out; omega) (by have := HAL.out; omega)).mono ?_
  rintro e w2 ⟨r, rfl, hr, hb⟩
  have hb2 := bnext hbb hb
  have HB2 := hidI (bnext HB1.out hb2)
  have hx2 := blk hb2 HX1.out
  have HX2 := hidI hx2
  clear hb hbb hb2 HB1 HX1
  cases r with
  | true =>
    clear hx2
    go_wp2_with fail
    go_ret
    exact ⟨rfl, HB2.out⟩
  | false =>
    have hr' := hr rfl
    have HL2 := hidI (HZL.out hr'.1)
    have HAC : Hid (al.length ≤ 262144) := hidI (by omega)
    have m0 : w2.cell? ⟨w.heap.size, 0, none⟩ = some (.slice ca l.length ccap) := cell_of_block hx2 rfl
    have m1 : w2.cell? ⟨w.heap.size, 1, none⟩ = some (.int .i64 mem) := cell_of_block hx2 rfl
    have m2 : w2.cell? ⟨w.heap.size, 2, none⟩ = some (.slice cca cs.length ccca) := cell_of_block hx2 rfl
    clear hr hr' hx2 HZ HZL
    go_wp2_with fail
    clear m0 m1 m2
    refine (twinImage_any (H.out.below HB2.out) (Rd.below HC.out HB2.out) HL2.out.2.1 HL2.out.2.2 HL2.out.1).mono ?_
    rintro e w3 ⟨v, tl, gc, rfl, ht, hb⟩
    obtain ⟨vg, va0, va1, hv, -⟩ := id ht.code
    rw [List.length_map] at hv
    subst hv
    have HT3 := hidI ht
    have HB23 := hidI hb
    have HB3 := hidI (bnext HB2.out hb)
    have HX3 := hidI (blk hb HX2.out)
    clear ht hb HX2
    go_wp2_with fail
    have hb3 : Below w3.heap.size w3 (w3.alloc (.cells #[.slice (some ⟨vg, 0, none⟩) l.length (l.length + 2), .int .i64 mem, .slice (some ⟨gc, 0, none⟩) cs.length (cs.length + 2)] 25)) := (Below.refl _ _).alloc (Nat.le_refl _) _
    have HQ4 := hidI (block_new w3 (.cells #[.slice (some ⟨vg, 0, none⟩) l.length (l.length + 2), .int .i64 mem, .slice (some ⟨gc, 0, none⟩) cs.length (cs.length + 2)] 25))
    have HT4 := hidI (HT3.out.below hb3)
    have HB4 := hidI (bnext HB3.out hb3)
    have hx4 := blk hb3 HX3.out
    have HX4 := hidI hx4
    have HL34 := hidI (show w3.heap.size < (w3.alloc (.cells #[.slice (some ⟨vg, 0, none⟩) l.length (l.length + 2), .int .i64 mem, .slice (some ⟨gc, 0, none⟩) cs.length (cs.length + 2)] 25)).heap.size from by simp)
    clear hb3 HX3 hx4
    generalize w3.alloc (.cells #[.slice (some ⟨vg, 0, none⟩) l.length (l.length + 2), .int .i64 mem, .slice (some ⟨gc, 0, none⟩) cs.length (cs.length + 2)] 25) = w4 at HQ4 HT4 HB4 HX4 HL34 ⊢
    obtain ⟨K, hK⟩ : ∃ K, K = checkM mem l cs := ⟨_, rfl⟩
    have hzc : (K != K) = false := by simp
    by_cases hk : checkM mem l cs = 0
    · have hK0 : K = 0 := by rw [hK]; exact hk
      subst hK0
      have HKE := hidI hk
      clear hk
      refine (new_tw HT4.out H.out.wf mem HL2.out.2.1 HL2.out.1 HKE.out).mono ?_
      rintro e w5 ⟨b, own, xs, mv, tv, rfl, hma, hb⟩
      have hx5 := blk hb HX4.out
      have hq5 := blk hb HQ4.out
      have m0 : w5.cell? ⟨w.heap.size, 0, none⟩ = some (.slice ca l.length ccap) := cell_of_block hx5 rfl
      have m1 : w5.cell? ⟨w.heap.size, 1, none⟩ = some (.int .i64 mem) := cell_of_block hx5 rfl
      have m2 : w5.cell? ⟨w.heap.size, 2, none⟩ = some (.slice cca cs.length ccca) := cell_of_block hx5 rfl
      have HMA := hidI hma
      have HB45 := hidI hb
      have HB5 := hidI (bnext HB4.out hb)
      have HX5 := hidI hx5
      have HQ5 := hidI hq5
      have HQ4' := hidI HQ4.out
      clear hma hb hx5 hq5 hzc hK HX4 HQ4
      go_wp2_with fail
      clear m0 m1 m2
      refine (rnew_code (H.out.below HB5.out) (Rd.below HC.out HB5.out) mem (by have := HL2.out; omega) (by have := HL2.out; omega) (fun p hp => by have := HL2.out.2.2 p hp; omega) HKE.out).mono ?_
      rintro e w6 ⟨c, rown, ys, mv2, tv2, ev2, rfl, hra, hco, hb⟩
      have hq6 := blk hb HQ5.out
      have hx6 := blk hb HX5.out
      have q0 : w6.cell? ⟨w3.heap.size, 0, none⟩ = some (.slice (some ⟨vg, 0, none⟩) l.length (l.length + 2)) := cell_of_block hq6 rfl
      have q1 : w6.cell? ⟨w3.heap.size, 1, none⟩ = some (.int .i64 mem) := cell_of_block hq6 rfl
      have q2 : w6.cell? ⟨w3.heap.size, 2, none⟩ = some (.slice (some ⟨gc, 0, none⟩) cs.length (cs.length + 2)) := cell_of_block hq6 rfl
      have HRA := hidI (hra.rebase HB5.out.size (fun x hx g hn hg => by
        obtain ⟨p, hp, e1, e2⟩ := hco x hx
        rw [e1] at hg
        rw [e2] at hn
        exact rdt_lt (H.out.each p hp) hn hg))
      have HRL := hidI hra.low
      have HB56 := hidI hb
      have HB46 := hidI (bnext HB45.out hb)
      have HB6 := hidI (bnext HB5.out hb)
      have HX6 := hidI hx6
      have HQ6 := hidI hq6
      clear hra hco hb hx6 hq6 HX5 HQ5
      go_wp2_with fail
      clear q0 q1 q2
      refine (check_tw (HT4.out.below HB46.out) H.out.wf mem HL2.out.2.1 HL2.out.1).mono ?_
      rw [HKE.out]
      rintro e w7 ⟨rfl, hb⟩
      have hq7 := blk hb HQ6.out
      have hx7 := blk hb HX6.out
      have m0 : w7.cell? ⟨w.heap.size, 0, none⟩ = some (.slice ca l.length ccap) := cell_of_block hx7 rfl
      have m1 : w7.cell? ⟨w.heap.size, 1, none⟩ = some (.int .i64 mem) := cell_of_block hx7 rfl
      have m2 : w7.cell? ⟨w.heap.size, 2, none⟩ = some (.slice cca cs.length ccca) := cell_of_block hx7 rfl
      have q0 : w7.cell? ⟨w3.heap.size, 0, none⟩ = some (.slice (some ⟨vg, 0, none⟩) l.length (l.length + 2)) := cell_of_block hq7 rfl
      have q1 : w7.cell? ⟨w3.heap.size, 1, none⟩ = some (.int .i64 mem) := cell_of_block hq7 rfl
      have q2 : w7.cell? ⟨w3.heap.size, 2, none⟩ = some (.slice (some ⟨gc, 0, none⟩) cs.length (cs.length + 2)) := cell_of_block hq7 rfl
      have HB67 := hidI hb
      have HB47 := hidI (bnext HB46.out hb)
      have HB7 := hidI (bnext HB6.out hb)
      have HX7 := hidI hx7
      have HQ7 := hidI hq7
      clear hb hx7 hq7
      go_wp2_with fail
      clear q0 q1 q2 m0 m1 m2
      refine (leftImage_true (HT4.out.below HB47.out) (H.out.below HB7.out) (Rd.below HC.out HB7.out) HL2.out.2.1 HL2.out.2.2 HL2.out.1).mono ?_
      rintro e w8 ⟨rfl, hb⟩
      have HB68 := hidI (bnext HB67.out hb)
      have HB48 := hidI (bnext HB47.out hb)
      have HB8 := hidI (bnext HB7.out hb)
      have HQ8 := hidI (blk hb HQ7.out)
      -- both machines, as they stand here
      have hm8 : MAt w8 w.heap.size b (lowT own w4.heap.size) (newM mem (l.map (·.2)) cs) xs mv tv (.slice none 0 0) := (((HMA.out.below HB56.out).below HB68.out).low).base_mono HB4.out.size
      have hr8 := HRA.out.below HB68.out
      have hdis : ∀ g, lowT own w4.heap.size g ≠ 0 → w4.heap.size ≤ g ∧ rown g = 0 := fun g hg => by
        have h1 : w4.heap.size ≤ g := by
          rcases Nat.lt_or_ge g w4.heap.size with e | e
          · exact absurd (if_pos e) hg
          · exact e
        refine ⟨h1, Classical.byContradiction fun hc => ?_⟩
        have h2 := HRL.out g hc
        rw [lowT_eq h1] at hg
        exact hg (HMA.out.fresh g h2)
      have htw := HT4.out.code
      obtain ⟨vg', ua0, ua1, hv', hvg, hsnd, hrows, hcb⟩ := htw
      simp only [Value.slice.injEq, Option.some.injEq, Addr.mk.injEq, and_true] at hv'
      obtain ⟨rfl, -⟩ := hv'
      have htl : tl.length = l.length := by simpa using congrArg List.length hsnd
      have hS : ∀ g, RowsOf tl g → w.heap.size ≤ g ∧ g < w4.heap.size ∧ ∃ cx, w4.heap[g]? = some (.cells cx 44 (0, 0)) := fun g ⟨p, hp, hg⟩ => by
        obtain ⟨g2, h1, h2, h3⟩ := hrows p hp
        rw [h2] at hg
        simp only [Value.ownBlock, Option.some.injEq] at hg
        subst hg
        exact ⟨Nat.le_trans HB2.out.size h1, lt_of_block h3, _, h3⟩
      have hnv : ¬ RowsOf tl vg := fun hh => by
        obtain ⟨_, _, cx, hx⟩ := hS vg hh
        rw [hcb] at hx
        simp at hx
      have hnq : ¬ RowsOf tl w3.heap.size := fun hh => by
        obtain ⟨_, _, cx, hx⟩ := hS _ hh
        rw [HQ4'.out] at hx
        simp at hx
      have HM8 := hidI hm8
      have HR8 := hidI hr8
      have HDIS := hidI hdis
      have HSS := hidI hS
      have HNV := hidI hnv
      have HNQ := hidI hnq
      have HTL := hidI htl
      have HCB8 := hidI (blk HB48.out hcb)
      have hha : Halts w8 tl := Halts.of (base := w2.heap.size) (fun p hp => (hrows p hp).below HB48.out)
      have HHA := hidI hha
      clear hm8 hr8 hdis hS hnv hnq htl hcb hha hrows hvg hsnd hb
      go_wp2_with fail
      go_loopw [10] (fun i w' => ∃ k : Nat, k ≤ l.length ∧ i = .int .i64 (k : Int) ∧ Hid (Halts w' tl ∧ Chg (RowsOf tl) w8 w')) (fun i _ => ((l.length : Int) - intOf i).toNat)
      case atStart => exact ⟨0, by omega, rfl, hidI ⟨HHA.out, Chg.refl _ _⟩⟩
      case round =>
        obtain ⟨k, hk, rfl, HW⟩ := hrel
        have hqr := chgblk HW.out.2 HQ8.out HNQ.out
        have q0 : wr.cell? ⟨w3.heap.size, 0, none⟩ = some (.slice (some ⟨vg, 0, none⟩) l.length (l.length + 2)) := cell_of_block hqr rfl
        clear hqr
        by_cases hlt : k < l.length
        · obtain ⟨p, hp⟩ := some_at (l := tl) (k := k) (by have := HTL.out; omega)
          have hmp := List.mem_of_getElem? hp
          obtain ⟨g, cg, hpv, hgb, hgs⟩ := HW.out.1 p hmp
          have HVK : Hid (∀ W, Chg (RowsOf tl) w8 W → W.cell? ⟨vg, k, none⟩ = some (.slice (some ⟨g, 0, none⟩) p.2.length (p.2.length + 2))) := hidI (fun W hW => cell_of_block (chgblk hW HCB8.out HNV.out) (by
            rw [List.getElem?_toArray, List.getElem?_append_left (by rw [flat_len encC_len]; have := HTL.out; omega)]
            have := flat_at encC_len tl hp 0 _ rfl
            rw [Nat.mul_one, Nat.add_zero, hpv] at this
            exact this))
          have HMP := hidI hmp
          have HPV := hidI hpv
          have HPL := hidI (show p.2.length ≤ 262144 from by
            have h1 : p.2 ∈ l.map (·.2) := by
              obtain ⟨_, _, _, -, -, hsnd, -⟩ := HT4.out.code
              rw [← hsnd]; exact List.mem_map_of_mem hmp
            obtain ⟨q, hq, e⟩ := List.mem_map.1 h1
            rw [← e]; exact HL2.out.2.2 q hq)
          have hll := HL2.out.2.1
          have hpl := HPL.out
          have v0 := HVK.out wr HW.out.2
          clear hp hmp hpv hgb hgs
          go_wp2_with fail
          go_loopw [11] (fun i w' => ∃ j : Nat, j ≤ p.2.length ∧ i = .int .i64 (j : Int) ∧ Hid (Halts w' tl ∧ Chg (RowsOf tl) w8 w')) (fun i _ => ((p.2.length : Int) - intOf i).toNat)
          case atStart => exact ⟨0, by omega, rfl, HW⟩
          case round =>
            clear q0 v0
            obtain ⟨j, hj, rfl, HWJ⟩ := hrel
            have hqr := chgblk HWJ.out.2 HQ8.out HNQ.out
            have q0 : wr.cell? ⟨w3.heap.size, 0, none⟩ = some (.slice (some ⟨vg, 0, none⟩) l.length (l.length + 2)) := cell_of_block hqr rfl
            obtain ⟨g', cg, hpv, hgb, hgs⟩ := HWJ.out.1 p HMP.out
            rw [HPV.out] at hpv
            simp only [Value.slice.injEq, Option.some.injEq, Addr.mk.injEq, and_true] at hpv
            subst hpv
            have v0 := HVK.out wr HWJ.out.2
            clear hqr
            by_cases hlj : j < p.2.length
            · have hin : ∀ q, q < 6 → ∃ u, wr.cell? ⟨g, j * 6 + q, none⟩ = some u := fun q hq => by
                have hlt9 : j * 6 + q < cg.size := by rw [hgs]; omega
                exact ⟨_, cell_of_block hgb (Array.getElem?_eq_getElem hlt9)⟩
              obtain ⟨u0, d0⟩ := hin 0 (by decide)
              obtain ⟨u1, d1⟩ := hin 1 (by decide)
              obtain ⟨u2, d2⟩ := hin 2 (by decide)
              obtain ⟨u3, d3⟩ := hin 3 (by decide)
              obtain ⟨u4, d4⟩ := hin 4 (by decide)
              obtain ⟨u5, d5⟩ := hin 5 (by decide)
              have f0 := free_of_block (o := j * 6) hgb
              have f1 := free_of_block (o := j * 6 + 1) hgb
              have f2 := free_of_block (o := j * 6 + 2) hgb
              have f3 := free_of_block (o := j * 6 + 3) hgb
              have f4 := free_of_block (o := j * 6 + 4) hgb
              have f5 := free_of_block (o := j * 6 + 5) hgb
              rw [Nat.add_zero] at d0
              have hS : RowsOf tl g := ⟨p, HMP.out, by rw [HPV.out]; rfl⟩
              have HSG := hidI hS
              clear hin hgb hgs hS
              go_wp2_with fail
              have hg := show p.1.ownBlock = some g from by rw [HPV.out]; rfl
              exact ⟨⟨j + 1, by omega, by go_num, hidI ⟨((((((HWJ.out.1.set HMP.out hg _ _).set HMP.out hg _ _).set HMP.out hg _ _).set HMP.out hg _ _).set HMP.out hg _ _).set HMP.out hg _ _), (((((HWJ.out.2.setCell (.inl HSG.out) _).setCell (.inl HSG.out) _).setCell (.inl HSG.out) _).setCell (.inl HSG.out) _).setCell (.inl HSG.out) _).setCell (.inl HSG.out) _⟩⟩, by simp [intOf]; omega⟩
            · obtain rfl : j = p.2.length := by omega
              go_wp2_with fail
              exact ⟨⟨k + 1, by omega, by go_num, HWJ⟩, by simp [intOf]; omega⟩
        · obtain rfl : k = l.length := by omega
          obtain ⟨w9, rfl⟩ : ∃ q, q = wr := ⟨_, rfl⟩
          have hm9 := HM8.out.chg HW.out.2 (fun k hk hh => by have h1 := (HDIS.out k hk).1; have h2 := (HSS.out k hh).2.1; omega)
          have hr9 := HR8.out.chg HW.out.2 (fun k hk hh => by
            have h2 := HSS.out k hh
            rcases hk with hk | hk
            · have h1 := HRL.out k hk; have h3 := HB45.out.size; omega
            · omega)
          have hold9 : Below w.heap.size w w9 := Chg.below HB8.out HB8.out.size HW.out.2 (fun k hk => (HSS.out k hk).1)
          have hduo := (Duo.init hm9 hr9 (fun g hg => by have := (HDIS.out g hg).1; have := HB4.out.size; omega) (fun g hg => (HDIS.out g hg).2) (newM_ok H.out HKE.out)).alloc (.cells #[.pointer (some ⟨b, 0, none⟩), .pointer (some ⟨c, 0, none⟩)] 46)
          have hpl : Pl20 w (w9.alloc (.cells #[.pointer (some ⟨b, 0, none⟩), .pointer (some ⟨c, 0, none⟩)] 46)) w.heap.size w9.heap.size 1 [(b, c)] [⟨b, lowT own w4.heap.size, newM mem (l.map (·.2)) cs, 0⟩] [⟨c, rown, newM mem (l.map (·.2)) cs, 0⟩] 0 [] :=
            ⟨hduo, own_of_full (xs := encBB (b, c)) (block_new w9 _) hold9.size (by show 1 ≤ maxLen; unfold maxLen; omega) rfl, rfl, rfl, fun j a d h1 h2 => by
              have a1 := (List.getElem?_eq_some_iff.1 h1).1
              simp only [List.length_singleton] at a1
              have : j = 0 := by omega
              subst this
              simp at h1 h2
              rw [← h1, ← h2], fun a ha => by rw [List.mem_singleton.1 ha]; exact Nat.le_refl _, fun a ha => by rw [List.mem_singleton.1 ha]; exact Nat.le_refl _, by simp, hold9.alloc hold9.size _⟩
          have HPL := hidI hpl
          clear hm9 hr9 hold9 hduo hpl HW HHA
          go_wp2_with fail
          clear q0
          generalize w9.alloc (.cells #[.pointer (some ⟨b, 0, none⟩), .pointer (some ⟨c, 0, none⟩)] 46) = w10 at HPL ⊢
          have HB0 := hidI (Nat.le_refl w.heap.size)
          go_loopw [12, 13] (fun va i w' => ∃ (k n ga cap : Nat) (bb : List (Nat × Nat)) (L R : List Mach), k ≤ al.length ∧ i = .int .i64 (k : Int) ∧ va = .slice (some ⟨ga, 0, none⟩) (n + 1) cap ∧ n ≤ 3 ∧ Hid (bb.length = n + 1 ∧ Pl20 w w' w.heap.size ga cap bb L R k [])) (fun va i _ => ((al.length : Int) - intOf i).toNat)
          case atStart => exact ⟨0, 0, w9.heap.size, 1, _, _, _, by omega, rfl, rfl, by omega, hidI ⟨rfl, HPL.out⟩⟩
          case round =>
            clear HPL
            obtain ⟨k, n, ga, cap, bb, L, R, hk, rfl, rfl, hn3, HP⟩ := hrel
            by_cases hlt : k < al.length
            · obtain ⟨a, hx⟩ := some_at hlt
              obtain ⟨p, m, r, hbp, hm, hr, hmb, hrb, hmr⟩ := HP.out.2.at (i := n) (by have := HP.out.1; omega)
              obtain ⟨rb, ro, rmm, rN⟩ := r
              simp only at hmr hrb
              subst hmr
              obtain ⟨pb, pc⟩ := p
              simp only at hmb hrb
              subst hmb
              subst hrb
              have hrow := HP.out.2.row
              rw [HP.out.1] at hrow
              obtain ⟨gx, ox, ex, hgx, hcc⟩ := RdT.at encBB_len (l := bb) (by have h9 := Rd.of_own HP.out.2.row; exact h9) hbp
              simp only [Option.some.injEq, Addr.mk.injEq, and_true] at ex
              obtain ⟨rfl, rfl⟩ := ex
              have a0 := hcc 0 _ rfl
              have a1 := hcc 1 _ rfl
              simp only [Nat.zero_add, Nat.add_zero] at a0 a1
              obtain ⟨b1, o1, rfl, hs1, hc1⟩ := RdT.at encAct_len (Rd.below HA.out (HP.out.2.old.alloc HP.out.2.old.size (.cells #[.pointer (some ⟨m.b, 0, none⟩), .pointer (some ⟨rb, 0, none⟩)] 46))) hx
              obtain ⟨kk, th, nn⟩ := a
              have x0 := hc1 0 _ rfl
              have x1 := hc1 1 _ rfl
              have x2 := hc1 2 _ rfl
              simp only [Nat.add_zero] at x0
              have HM := hidI hm
              have HR := hidI hr
              have hnl := HP.out.2.nL m (List.mem_of_getElem? hm)
              have hnr := HP.out.2.nR _ (List.mem_of_getElem? hr)
              have HNL := hidI hnl
              have HNR := hidI hnr
              have hp2 := (HP.out.2.alloc (.cells #[.pointer (some ⟨m.b, 0, none⟩), .pointer (some ⟨rb, 0, none⟩)] 46)).alloc (.cells #[.int .i64 kk, .int .i64 th, .int .i64 nn] 49)
              rw [World.size_alloc] at hp2
              have hy0 := block_alloc (o := .cells #[.int .i64 kk, .int .i64 th, .int .i64 nn] 49) (block_new wr (.cells #[.pointer (some ⟨m.b, 0, none⟩), .pointer (some ⟨rb, 0, none⟩)] 46))
              have hy1 := block_new2 wr (.cells #[.pointer (some ⟨m.b, 0, none⟩), .pointer (some ⟨rb, 0, none⟩)] 46) (.cells #[.int .i64 kk, .int .i64 th, .int .i64 nn] 49)
              have HP2 := hidI hp2
              have HY0 := hidI hy0
              have HY1 := hidI hy1
              have hac := HAC.out
              clear hbp hm hr hrow hcc hs1 hc1 hx hp2 hy0 hy1 hnl hnr hgx
              by_cases hk0 : kk = 0
              · subst hk0
                go_wp2_with fail
                obtain ⟨q2, hq2⟩ : ∃ q2, q2 = (wr.alloc (.cells #[.pointer (some ⟨m.b, 0, none⟩), .pointer (some ⟨rb, 0, none⟩)] 46)).alloc (.cells #[.int .i64 0, .int .i64 th, .int .i64 nn] 49) := ⟨_, rfl⟩
                rw [← hq2] at HP2 HY0 HY1 ⊢
                clear hq2
                have HKS : Hid (∀ W : World, (∀ g ∈ ga :: [wr.heap.size + 1, wr.heap.size], W.heap[g]? = q2.heap[g]?) → W.cell? ⟨wr.heap.size, 0, none⟩ = some (.pointer (some ⟨m.b, 0, none⟩)) ∧ W.cell? ⟨wr.heap.size, 1, none⟩ = some (.pointer (some ⟨rb, 0, none⟩)) ∧ W.cell? ⟨wr.heap.size + 1, 1, none⟩ = some (.int .i64 th)) := hidI (fun W hW => ⟨cell_of_block ((hW _ (by simp)).trans HY0.out) rfl, cell_of_block ((hW _ (by simp)).trans HY0.out) rfl, cell_of_block ((hW _ (by simp)).trans HY1.out) rfl⟩)
                have hbz : ((m.mm.step th).1 != (m.mm.step th).1) = false := by simp
                go_region_held3 (fun W => W.cell? ⟨wr.heap.size, 0, none⟩ = some (.pointer (some ⟨m.b, 0, none⟩)) ∧ W.cell? ⟨wr.heap.size, 1, none⟩ = some (.pointer (some ⟨rb, 0, none⟩)) ∧ W.cell? ⟨wr.heap.size + 1, 1, none⟩ = some (.int .i64 th)) (refine HKS.out _ ?_ <;> first | exact HT2.out | exact HT1.out | exact fun g _ => rfl) (first | (go_at_call 13; refine (step_dp (i := n) (HP2.out.duo.below (Below.refl q2.heap.size q2).drew) HM.out (by have := HNL.out; omega) th).mono ?_; rintro e q3 ⟨rfl, ⟨ow3, hd3⟩, hst, hb⟩; have HT1 : Hid (∀ g ∈ ga :: [wr.heap.size + 1, wr.heap.size], q3.heap[g]? = q2.heap[g]?) := hidI hst; have HD3 := hidI hd3; have HB3' : Hid (Below w.heap.size q2 q3) := hidI ((Below.refl _ q2).drew.trans hb); clear hst hd3 hb; dsimp only) | (go_at_call 14; refine (step_dr (i := n) HD3.out HR.out (by have := HNR.out; simp only; omega) th).mono ?_; rintro e q4 ⟨rfl, ⟨ow4, hd4⟩, hst, hb⟩; have HT2 : Hid (∀ g ∈ ga :: [wr.heap.size + 1, wr.heap.size], q4.heap[g]? = q2.heap[g]?) := hidI (fun g hg => (hst g hg).trans (HT1.out g hg)); have HD4 := hidI hd4; have HB4' := hidI (HB3'.out.trans hb); clear hst hd4 hb; dsimp only))
                go_wp2_with fail
                exact ⟨⟨k + 1, n, ga, cap, bb, _, _, by omega, by go_num, rfl, hn3, hidI ⟨HP.out.1, (HP2.out.went HM.out HR.out HD4.out HT2.out HB4'.out (Nat.le_refl _) rfl rfl rfl (Nat.succ_le_succ HNL.out) (Nat.succ_le_succ HNR.out)).less (by simp)⟩⟩, by simp [intOf]; omega⟩
              · have hkb0 : (kk == 0) = false := by simpa using hk0
                by_cases hk1 : kk = 1
                · subst hk1
                  go_wp2_with fail
                  obtain ⟨q2, hq2⟩ : ∃ q2, q2 = (wr.alloc (.cells #[.pointer (some ⟨m.b, 0, none⟩), .pointer (some ⟨rb, 0, none⟩)] 46)).alloc (.cells #[.int .i64 1, .int .i64 th, .int .i64 nn] 49) := ⟨_, rfl⟩
                  rw [← hq2] at HP2 HY0 HY1 ⊢
                  clear hq2
                  have HKS : Hid (∀ W : World, (∀ g ∈ ga :: [wr.heap.size + 1, wr.heap.size], W.heap[g]? = q2.heap[g]?) → W.cell? ⟨wr.heap.size, 0, none⟩ = some (.pointer (some ⟨m.b, 0, none⟩)) ∧ W.cell? ⟨wr.heap.size, 1, none⟩ = some (.pointer (some ⟨rb, 0, none⟩)) ∧ W.cell? ⟨wr.heap.size + 1, 1, none⟩ = some (.int .i64 th)) := hidI (fun W hW => ⟨cell_of_block ((hW _ (by simp)).trans HY0.out) rfl, cell_of_block ((hW _ (by simp)).trans HY0.out) rfl, cell_of_block ((hW _ (by simp)).trans HY1.out) rfl⟩)
                  have hbz : ((m.mm.flush th).1 != (m.mm.flush th).1) = false := by simp
                  go_region_held3 (fun W => W.cell? ⟨wr.heap.size, 0, none⟩ = some (.pointer (some ⟨m.b, 0, none⟩)) ∧ W.cell? ⟨wr.heap.size, 1, none⟩ = some (.pointer (some ⟨rb, 0, none⟩)) ∧ W.cell? ⟨wr.heap.size + 1, 1, none⟩ = some (.int .i64 th)) (refine HKS.out _ ?_ <;> first | exact HT2.out | exact HT1.out | exact fun g _ => rfl) (first | (go_at_call 15; refine (flush_dp (i := n) (HP2.out.duo.below (Below.refl q2.heap.size q2).drew) HM.out th).mono ?_; rintro e q3 ⟨rfl, ⟨ow3, hd3⟩, hst, hb⟩; have HT1 : Hid (∀ g ∈ ga :: [wr.heap.size + 1, wr.heap.size], q3.heap[g]? = q2.heap[g]?) := hidI hst; have HD3 := hidI hd3; have HB3' : Hid (Below w.heap.size q2 q3) := hidI ((Below.refl _ q2).drew.trans hb); clear hst hd3 hb; dsimp only) | (go_at_call 16; refine (flush_dr (i := n) HD3.out HR.out th).mono ?_; rintro e q4 ⟨rfl, ⟨ow4, hd4⟩, hst, hb⟩; have HT2 : Hid (∀ g ∈ ga :: [wr.heap.size + 1, wr.heap.size], q4.heap[g]? = q2.heap[g]?) := hidI (fun g hg => (hst g hg).trans (HT1.out g hg)); have HD4 := hidI hd4; have HB4' := hidI (HB3'.out.trans hb); clear hst hd4 hb; dsimp only))
                  go_wp2_with fail
                  exact ⟨⟨k + 1, n, ga, cap, bb, _, _, by omega, by go_num, rfl, hn3, hidI ⟨HP.out.1, (HP2.out.went HM.out HR.out HD4.out HT2.out HB4'.out (Nat.le_refl _) rfl rfl rfl (Nat.le_succ_of_le HNL.out) (Nat.le_succ_of_le HNR.out)).less (by simp)⟩⟩, by simp [intOf]; omega⟩
                · have hkb1 : (kk == 1) = false := by simpa using hk1
                  by_cases hk2 : kk = 2
                  · subst hk2
                    by_cases hn : n = 3
                    · subst hn
                      go_wp2_with fail
                      exact ⟨⟨k + 1, 3, ga, cap, bb, L, R, by omega, by go_num, rfl, by omega, hidI ⟨HP.out.1, (HP2.out.less (by simp)).mono (by omega)⟩⟩, by simp [intOf]; omega⟩
                    · have hn4 : ((n : Int) + 1) < 4 := by omega
                      go_wp2_with fail
                      obtain ⟨q2, hq2⟩ : ∃ q2, q2 = (wr.alloc (.cells #[.pointer (some ⟨m.b, 0, none⟩), .pointer (some ⟨rb, 0, none⟩)] 46)).alloc (.cells #[.int .i64 2, .int .i64 th, .int .i64 nn] 49) := ⟨_, rfl⟩
                      rw [← hq2] at HP2 HY0 HY1 ⊢
                      clear hq2
                      have HKS : Hid (∀ W : World, Below q2.heap.size q2 W → W.cell? ⟨wr.heap.size, 0, none⟩ = some (.pointer (some ⟨m.b, 0, none⟩)) ∧ W.cell? ⟨wr.heap.size, 1, none⟩ = some (.pointer (some ⟨rb, 0, none⟩))) := hidI (fun W hW => ⟨cell_of_block (blk hW HY0.out) rfl, cell_of_block (blk hW HY0.out) rfl⟩)
                      have HU := hidI (Below.refl q2.heap.size q2)
                      obtain ⟨i0, hi, hz0, hz1, hz2⟩ := info_parts bbInfo
                      have hne : ¬ (wr.heap.size = ga) := by have h8 : ga < wr.heap.size := (rowLt HP.out.2.row rfl).2; intro e; omega
                      go_region_held3 (fun W => W.cell? ⟨wr.heap.size, 0, none⟩ = some (.pointer (some ⟨m.b, 0, none⟩)) ∧ W.cell? ⟨wr.heap.size, 1, none⟩ = some (.pointer (some ⟨rb, 0, none⟩))) (first | exact HK9.out | (refine HKS.out _ ?_ <;> first | exact HU2.out | exact HU2.out.alloc HU2.out.size _ | exact HU1.out | exact HU.out.drew | exact HU.out)) (first | (refine step_append_d (by rfl) (.tmp 145) (.tmp 153) 47 (by rfl) w.heap.size 46 i0 _ 2 16 Tryz.underlying47 hi hz0 hz1 hz2 rfl (by decide) (.slice (some ⟨ga, 0, none⟩) (n + 1) cap) (n + 1) (bb.flatMap encBB) (by simp [Act.eval]) (by exact HP2.out.rowA HU2.out _ HP.out.1) ⟨q4.heap.size, 0, none⟩ 1 1 (by decide) (encBB (b3, b4)) (by simp [Act.eval]) rfl (by exact news_at (block_new q4 _)) (one_BB _) (by unfold maxLen; omega) (by omega) (by have := HP2.out.old.size; have := HU2.out.size; show w.heap.size ≤ (q4.alloc _).heap.size; rw [World.size_alloc]; omega) ?_; intro ao9 cp9 w9 h1 h2 h3; have hg0 : Chg (fun k => k = ga) _ w9 := Chg.grown (S := fun k => k = ga) (Chg.refl _ _) h3 (fun q e => .inl (by simp only [Value.ownBlock, Option.some.injEq] at e; exact e.symm)); have HK9 := hidI (show w9.cell? ⟨wr.heap.size, 0, none⟩ = some (.pointer (some ⟨m.b, 0, none⟩)) ∧ w9.cell? ⟨wr.heap.size, 1, none⟩ = some (.pointer (some ⟨rb, 0, none⟩)) from ⟨cell_of_block (chgblk hg0 (blk (HU2.out.alloc HU2.out.size _) HY0.out) hne) rfl, cell_of_block (chgblk hg0 (blk (HU2.out.alloc HU2.out.size _) HY0.out) hne) rfl⟩); have HR9 := hidI h1; have HF9 := hidI h2; have HG9 := hidI h3; clear h1 h2 h3 hg0) | (go_at_call 18; refine (copy_dr (i := n) HD3.out HR.out (Nat.le_trans HNR.out (by omega))).mono ?_; rintro e q4 ⟨b4, o4, rfl, hd4, hb⟩; have HD4 := hidI hd4; have HU2 : Hid (Below q2.heap.size q2 q4) := hidI (HU1.out.trans (hb.mono HU1.out.size)); clear hd4 hb; dsimp only) | (go_at_call 17; refine (copy_dp (i := n) (HP2.out.duo.below (Below.refl q2.heap.size q2).drew) HM.out (by have := HNL.out; omega)).mono ?_; rintro e q3 ⟨b3, o3, rfl, hd3, hb⟩; have HD3 := hidI hd3; have HU1 : Hid (Below q2.heap.size q2 q3) := hidI ((Below.refl q2.heap.size q2).drew.trans hb); clear hd3 hb; dsimp only))
                      go_wp2_with fail
                      have h1 := HR9.out
                      have h2 := HF9.out
                      have h3 := HG9.out
                      rw [← HP.out.1] at h1 h2 h3
                      obtain ⟨ga', rfl, hp9⟩ := HP2.out.copied HD4.out HU2.out h1 h2 h3 rfl HNL.out HNR.out (by have := HP.out.1; omega) (Nat.le_refl _)
                      exact ⟨⟨k + 1, n + 1, ga', cp9, _, _, _, by omega, by go_num, rfl, by omega, hidI ⟨by simp [HP.out.1], hp9.mono (by omega)⟩⟩, by simp [intOf]; omega⟩
                  · have hkb2 : (kk == 2) = false := by simpa using hk2
                    go_wp2_with fail
                    obtain ⟨xs1, mv1, tv1, ev1, ys1, mv3, tv3, ev3, hma, hra, hok⟩ := HP2.out.both HM.out HR.out
                    refine (looked_any hma hra hok th nn).mono ?_
                    rintro e q3 ⟨rfl, hb⟩
                    have HB3 := hidI hb
                    clear hma hra hok hb
                    go_wp2_with fail
                    exact ⟨⟨k + 1, n, ga, cap, bb, L, R, by omega, by go_num, rfl, by omega, hidI ⟨HP.out.1, ((HP2.out.below HB3.out).less (by simp)).mono (by omega)⟩⟩, by simp [intOf]; omega⟩
            · obtain rfl : k = al.length := by omega
              obtain ⟨w11, rfl⟩ : ∃ q, q = wr := ⟨_, rfl⟩
              go_wp2_with fail
              go_loopw [16] (fun i w' => ∃ j : Nat, j ≤ n + 1 ∧ i = .int .i64 (j : Int) ∧ Hid (Below w11.heap.size w11 w')) (fun i _ => ((n : Int) + 1 - intOf i).toNat)
              case atStart => exact ⟨0, by omega, rfl, hidI (Below.refl _ _)⟩
              case round =>
                obtain ⟨j, hj, rfl, HW⟩ := hrel
                have hpr := HP.out.2.below HW.out
                by_cases hlj : j < n + 1
                · obtain ⟨p, m, r, hbp, hm, hr, hmb, hrb, hmr⟩ := hpr.at (i := j) (by have := HP.out.1; omega)
                  obtain ⟨xs1, mv1, tv1, ev1, ys1, mv3, tv3, ev3, hma, hra, hok⟩ := hpr.both hm hr
                  obtain ⟨gx, ox, ex, hgx, hcc⟩ := RdT.at encBB_len (l := bb) (by have h9 := Rd.of_own hpr.row; exact h9) hbp
                  simp only [Option.some.injEq, Addr.mk.injEq, and_true] at ex
                  obtain ⟨rfl, rfl⟩ := ex
                  have a0 := hcc 0 _ rfl
                  have a1 := hcc 1 _ rfl
                  simp only [Nat.zero_add, Nat.add_zero] at a0 a1
                  rw [← hmb] at a0
                  rw [← hrb] at a1
                  have HST := hidI (stands_any hma hra hok (by have := hpr.nL m (List.mem_of_getElem? hm); have := HAC.out; omega))
                  clear hma hra hok hcc hgx hbp hm hr hmb hrb hmr hpr
                  go_wp2_with fail
                  refine HST.out.mono ?_
                  rintro e w12 ⟨rfl, hb⟩
                  have HB12 := hidI (bnext HW.out hb)
                  clear hb
                  go_wp2_with fail
                  exact ⟨⟨j + 1, by omega, by go_num, HB12⟩, by simp [intOf]; omega⟩
                · obtain rfl : j = n + 1 := by omega
                  clear hpr
                  go_wp2_with fail
                  refine (lives_any _).mono ?_
                  rintro e w12 ⟨rfl, hb⟩
                  have HB12 := hidI ((HP.out.2.old.trans (HW.out.mono HP.out.2.old.size)).trans (hb.mono (HP.out.2.old.trans (HW.out.mono HP.out.2.old.size)).size))
                  clear hb
                  go_wp2_with fail
                  go_ret
                  exact ⟨rfl, HB12.out⟩
    · have hKn : K ≠ 0 := by rw [hK]; exact hk
      have hKb : (K != 0) = true := by simpa using hKn
      have HKE := hidI hk
      have HKK := hidI hK
      clear hk hK
      refine (new_tw_no HT4.out H.out.wf mem HL2.out.2.1 HL2.out.1 HKE.out).mono ?_
      rw [← HKK.out]
      rintro e w5 ⟨rfl, hb⟩
      have hx5 := blk hb HX4.out
      have m0 : w5.cell? ⟨w.heap.size, 0, none⟩ = some (.slice ca l.length ccap) := cell_of_block hx5 rfl
      have m1 : w5.cell? ⟨w.heap.size, 1, none⟩ = some (.int .i64 mem) := cell_of_block hx5 rfl
      have m2 : w5.cell? ⟨w.heap.size, 2, none⟩ = some (.slice cca cs.length ccca) := cell_of_block hx5 rfl
      have HB45 := hidI hb
      have HB5 := hidI (bnext HB4.out hb)
      have HX5 := hidI hx5
      have HQ5 := hidI (blk hb HQ4.out)
      clear hb hx5 HX4 HQ4
      go_wp2_with fail
      clear m0 m1 m2
      refine (rnew_no (H.out.below HB5.out) (Rd.below HC.out HB5.out) mem (by have := HL2.out; omega) (by have := HL2.out; omega) (fun p hp => by have := HL2.out.2.2 p hp; omega) HKE.out).mono ?_
      rw [← HKK.out]
      rintro e w6 ⟨rfl, hb⟩
      have hq6 := blk hb HQ5.out
      have q0 : w6.cell? ⟨w3.heap.size, 0, none⟩ = some (.slice (some ⟨vg, 0, none⟩) l.length (l.length + 2)) := cell_of_block hq6 rfl
      have q1 : w6.cell? ⟨w3.heap.size, 1, none⟩ = some (.int .i64 mem) := cell_of_block hq6 rfl
      have q2 : w6.cell? ⟨w3.heap.size, 2, none⟩ = some (.slice (some ⟨gc, 0, none⟩) cs.length (cs.length + 2)) := cell_of_block hq6 rfl
      have HB46 := hidI (bnext HB45.out hb)
      have HB6 := hidI (bnext HB5.out hb)
      have HX6 := hidI (blk hb HX5.out)
      have HQ6 := hidI hq6
      clear hb hq6 HX5 HQ5
      go_wp2_with fail
      clear q0 q1 q2
      refine (check_tw (HT4.out.below HB46.out) H.out.wf mem HL2.out.2.1 HL2.out.1).mono ?_
      rw [← HKK.out]
      rintro e w7 ⟨rfl, hb⟩
      have hq7 := blk hb HQ6.out
      have hx7 := blk hb HX6.out
      have m0 : w7.cell? ⟨w.heap.size, 0, none⟩ = some (.slice ca l.length ccap) := cell_of_block hx7 rfl
      have m1 : w7.cell? ⟨w.heap.size, 1, none⟩ = some (.int .i64 mem) := cell_of_block hx7 rfl
      have m2 : w7.cell? ⟨w.heap.size, 2, none⟩ = some (.slice cca cs.length ccca) := cell_of_block hx7 rfl
      have q0 : w7.cell? ⟨w3.heap.size, 0, none⟩ = some (.slice (some ⟨vg, 0, none⟩) l.length (l.length + 2)) := cell_of_block hq7 rfl
      have q1 : w7.cell? ⟨w3.heap.size, 1, none⟩ = some (.int .i64 mem) := cell_of_block hq7 rfl
      have q2 : w7.cell? ⟨w3.heap.size, 2, none⟩ = some (.slice (some ⟨gc, 0, none⟩) cs.length (cs.length + 2)) := cell_of_block hq7 rfl
      have HB47 := hidI (bnext HB46.out hb)
      have HB7 := hidI (bnext HB6.out hb)
      clear hb hx7 hq7
      go_wp2_with fail
      clear q0 q1 q2 m0 m1 m2
      refine (leftImage_true (HT4.out.below HB47.out) (H.out.below HB7.out) (Rd.below HC.out HB7.out) HL2.out.2.1 HL2.out.2.2 HL2.out.1).mono ?_
      rintro e w8 ⟨rfl, hb⟩
      have HB8 := hidI (bnext HB7.out hb)
      clear hb
      go_wp2_with fail
      refine (lives_any _).mono ?_
      rintro e w9 ⟨rfl, hb⟩
      have HB9 := hidI (bnext HB8.out hb)
      clear hb
      go_wp2_with fail
      go_ret
      exact ⟨rfl, HB9.out⟩
end Go.Proofs.YthmmbldhbdnfpaaGreatDoor

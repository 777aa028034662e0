/- PlanMakes: both Makes, the plans' lists apart, the frames as they were. -/
import Derived.Test.YtilkpmjkiohfdaaGreatDoorPlanUni
import Derived.Test.YtilkpmjkiohfdaaGreatDoorPlanRef
import Derived.Test.YtilkpmjkiohfdaaGreatDoorPlanLives
import Derived.Test.YtilkpmjkiohfdaaGreatDoorNums
import Derived.Test.YtilkpmjkiohfdaaGreatDoorBeyond
import Derived.Test.YtilkpmjkiohfdaaGreatDoorBookZ
import Derived.ProofKit
namespace Go.Proofs.YtilkpmjkiohfdaaGreatDoor
open Go.RowKit
set_option linter.unusedVariables false
set_option linter.unusedSimpArgs false

set_option maxRecDepth 100000 in
set_option maxHeartbeats 8000000 in
theorem makes_any (w : World) (words : Int) (ao : Option Addr) (zs : List Int) (cap : Nat) (hz : Ints w (.slice ao zs.length cap) zs) (hm : zs.length < 2 ^ 62) :
    Calls Tryz.prog 3 #[.int .i64 words, .slice ao zs.length cap] w fun e w' => e = .returned (.bool true) ∧ Below w.heap.size w w' := by
  have hz1 := zero_book
  have hz2 := zbook_size
  have HZ := hidI hz
  clear hz
  go_enter Tryz.func3, Tryz.ntmps3
  go_wp2_with fail
  have HB0 := hidI ((Below.refl w.heap.size w).alloc (Nat.le_refl _) (.cells #[.int .i64 (zs.length : Int)] 3))
  refine (beyond1 zs.length (block_new w _) hm).mono ?_
  rintro e w1 ⟨rfl, hb1⟩
  have HB1 := hidI (bnextA (Below.refl _ _) hb1)
  clear hb1
  by_cases hbig : 262144 < zs.length
  · rw [decide_eq_true hbig]
    go_wp2_with fail
    go_ret
    exact ⟨rfl, HB1.out⟩
  rw [decide_eq_false hbig]
  go_wp2_with fail
  refine (twinNumbers_any (l := zs) (Rd.below (Ints.to_rd HZ.out) HB1.out) (by omega)).mono ?_
  rintro e w2 ⟨g, hg, rfl, hblk, hb2⟩
  have HG := hidI hg
  have HBLK := hidI hblk
  have HB2 := hidI (HB1.out.trans (hb2.mono HB1.out.size))
  clear hg hblk hb2
  go_wp2_with fail
  refine (make_any words _ zs _ _ (Ints.of_rd (head_nums HBLK.out (by omega))) (by omega)).mono ?_
  intro e w3 h
  obtain ⟨a1, c1, rfl, hown, hb⟩ := MkU.of h
  have HO1 := hidI hown
  have HB3 := hidI hb
  clear h hown hb
  go_wp2_with fail
  have HB3a := hidI (HB3.out.alloc HB3.out.size (.cells #[.int .i64 (mkW words zs), .slice a1 (mkP words zs).length c1, .int .i64 (mkS words zs)] 27))
  refine (make_any words _ zs _ _ (Ints.of_rd (head_nums (blk HB3a.out HBLK.out) (by omega))) (by omega)).mono ?_
  intro e w4 h
  obtain ⟨a2, c2, rfl, hown, hb⟩ := MkU.of h
  have HO2 := hidI hown
  have HB4 := hidI hb
  clear h hown hb
  have HB4a := hidI (HB3a.out.trans ((HB4.out.alloc HB4.out.size (.cells #[.int .i64 (mkW words zs), .slice a2 (mkP words zs).length c2, .int .i64 (mkS words zs)] 27)).mono HB3a.out.size))
  go_wp2_with fail
  refine (rmake_any words ao zs cap _ (Ints.of_rd (Rd.below (Rd.below (Ints.to_rd HZ.out) HB2.out) HB4a.out)) (by omega)).mono ?_
  intro e w5 h
  obtain ⟨a3, c3, rfl, hown, hb⟩ := MkU.of h
  have HO3 := hidI hown
  have HB5 := hidI hb
  clear h hown hb
  have keep : ∀ {a b : World} {base : Nat} {v : Value} {n : Nat} {cs : List Value}, a.ownsRow base 110 5 v n cs → Below a.heap.size a b → b.ownsRow base 110 5 v n cs := fun h hb => ownsRow_chg h (Chg.of_below (S := fun _ => False) hb) (fun _ _ => id)
  obtain ⟨wS, hwS⟩ : ∃ x, x = w5.alloc (.cells #[.int .i64 (mkW words zs), .slice a3 (mkP words zs).length c3, .int .i64 (mkS words zs)] 27) := ⟨_, rfl⟩
  have hb5S : Below w5.heap.size w5 wS := by rw [hwS]; exact (Below.refl _ _).alloc (Nat.le_refl _) _
  have hb4S : Below (w4.alloc (.cells #[.int .i64 (mkW words zs), .slice a2 (mkP words zs).length c2, .int .i64 (mkS words zs)] 27)).heap.size (w4.alloc (.cells #[.int .i64 (mkW words zs), .slice a2 (mkP words zs).length c2, .int .i64 (mkS words zs)] 27)) wS := bnext HB5.out hb5S
  have hb3S : Below (w3.alloc (.cells #[.int .i64 (mkW words zs), .slice a1 (mkP words zs).length c1, .int .i64 (mkS words zs)] 27)).heap.size (w3.alloc (.cells #[.int .i64 (mkW words zs), .slice a1 (mkP words zs).length c1, .int .i64 (mkS words zs)] 27)) wS := bnext (HB4.out.alloc HB4.out.size (.cells #[.int .i64 (mkW words zs), .slice a2 (mkP words zs).length c2, .int .i64 (mkS words zs)] 27)) hb4S
  have HBX := hidI (HB3a.out.trans (hb3S.mono HB3a.out.size))
  have HBS := hidI (HB2.out.trans (HBX.out.mono HB2.out.size))
  have hA : wS.heap[w3.heap.size]? = some (.cells #[.int .i64 (mkW words zs), .slice a1 (mkP words zs).length c1, .int .i64 (mkS words zs)] 27) := blk hb3S (block_new _ _)
  have hB : wS.heap[w4.heap.size]? = some (.cells #[.int .i64 (mkW words zs), .slice a2 (mkP words zs).length c2, .int .i64 (mkS words zs)] 27) := blk hb4S (block_new _ _)
  have hC : wS.heap[w5.heap.size]? = some (.cells #[.int .i64 (mkW words zs), .slice a3 (mkP words zs).length c3, .int .i64 (mkS words zs)] 27) := by rw [hwS]; exact block_new _ _
  have PA := hidI (keep (keep HO1.out ((Below.refl _ _).alloc (Nat.le_refl _) (.cells #[.int .i64 (mkW words zs), .slice a1 (mkP words zs).length c1, .int .i64 (mkS words zs)] 27))) hb3S)
  have PB := hidI (ownsRow_mono (keep (keep HO2.out ((Below.refl _ _).alloc (Nat.le_refl _) (.cells #[.int .i64 (mkW words zs), .slice a2 (mkP words zs).length c2, .int .i64 (mkS words zs)] 27))) hb4S) HB3a.out.size)
  have PC := hidI (keep HO3.out hb5S)
  have LTS := hidI (show w3.heap.size < w4.heap.size ∧ w4.heap.size < w5.heap.size ∧ w5.heap.size < wS.heap.size from by
    refine ⟨by have := HB4.out.size; simp at this; omega, by have := HB5.out.size; simp at this; omega, by rw [hwS]; simp⟩)
  have LT1 := hidI (fun g (hg : (Value.slice a1 (mkP words zs).length c1).ownBlock = some g) => (rowLt HO1.out hg).2)
  have LT2 := hidI (fun g (hg : (Value.slice a2 (mkP words zs).length c2).ownBlock = some g) => rowLt HO2.out hg)
  clear hb5S hb4S hb3S
  have a0 := cell_of_block (o := 0) hA rfl
  have a1' := cell_of_block (o := 1) hA rfl
  have a2' := cell_of_block (o := 2) hA rfl
  have b0 := cell_of_block (o := 0) hB rfl
  have b1' := cell_of_block (o := 1) hB rfl
  have b2' := cell_of_block (o := 2) hB rfl
  have cc0 := cell_of_block (o := 0) hC rfl
  have cc1 := cell_of_block (o := 1) hC rfl
  have cc2 := cell_of_block (o := 2) hC rfl
  simp only [List.getElem_toArray, List.getElem_cons_zero, List.getElem_cons_succ] at a0 a1' a2' b0 b1' b2' cc0 cc1 cc2
  have HA := hidI hA
  have HBb := hidI hB
  have HC := hidI hC
  have HLEN := hidI (show (mkP words zs).length ≤ 4 from mkP_len words zs)
  rw [hwS] at a0 a1' a2' b0 b1' b2' cc0 cc1 cc2
  clear hA hB hC
  have HWS := hidI hwS
  clear hwS
  go_wp2_with fail
  rw [← HWS.out]
  refine (samePlan_true (Rd.of_own PA.out) (Rd.of_own PC.out) (by have := HLEN.out; omega)).mono ?_
  rintro e w6 ⟨rfl, hb6⟩
  have HB6 := hidI hb6
  have hB6 := blk hb6 HBb.out
  have hC6 := blk hb6 HC.out
  clear hb6 a0 a1' a2' b0 b1' b2' cc0 cc1 cc2
  have b0 := cell_of_block (o := 0) hB6 rfl
  have b1' := cell_of_block (o := 1) hB6 rfl
  have b2' := cell_of_block (o := 2) hB6 rfl
  have cc0 := cell_of_block (o := 0) hC6 rfl
  have cc1 := cell_of_block (o := 1) hC6 rfl
  have cc2 := cell_of_block (o := 2) hC6 rfl
  simp only [List.getElem_toArray, List.getElem_cons_zero, List.getElem_cons_succ] at b0 b1' b2' cc0 cc1 cc2
  clear hB6 hC6
  go_wp2_with fail
  refine (samePlan_true (Rd.of_own (keep PB.out HB6.out)) (Rd.of_own (keep PC.out HB6.out)) (by have := HLEN.out; omega)).mono ?_
  rintro e w7 ⟨rfl, hb7⟩
  have hbS7 : Below wS.heap.size wS w7 := HB6.out.trans (hb7.mono HB6.out.size)
  have HBS7 := hidI hbS7
  clear hb7 b0 b1' b2' cc0 cc1 cc2
  have QA := hidI (keep PA.out hbS7)
  have QB := hidI (keep PB.out hbS7)
  have HA7 := hidI (blk hbS7 HA.out)
  have HB7 := hidI (blk hbS7 HBb.out)
  have HS7 := hidI hbS7.size
  have HBW7 := hidI (HBS.out.trans (hbS7.mono HBS.out.size))
  have HG7 := hidI (blk hbS7 (blk HBX.out HBLK.out))
  clear hbS7 PA PB PC
  have hkb := block_new w7 (.cells zeroBook 60)
  have hbd : Below w7.heap.size w7 (w7.alloc (.cells zeroBook 60)) := (Below.refl _ _).alloc (Nat.le_refl _) _
  have hsz8 : w7.heap.size < (w7.alloc (.cells zeroBook 60)).heap.size := by simp
  have HKB := hidI hkb
  have HBD := hidI hbd
  have HSZ8 := hidI hsz8
  have hbk := hbd
  clear hkb hbd hsz8
  have hA8 := blk hbk HA7.out
  have a0 := cell_of_block (o := 0) hA8 rfl
  have a1' := cell_of_block (o := 1) hA8 rfl
  have a2' := cell_of_block (o := 2) hA8 rfl
  simp only [List.getElem_toArray, List.getElem_cons_zero, List.getElem_cons_succ] at a0 a1' a2'
  clear hbk hA8
  go_wp2_with fail
  clear hz1 hz2 a0 a1' a2'
  have hkb := HKB.out
  have hbd := HBD.out
  have hsz8 := HSZ8.out
  clear HKB HBD HSZ8
  generalize w7.alloc (.cells zeroBook 60) = w8 at hkb hbd hsz8 ⊢
  have hlt1 : ∀ g, (Value.slice a1 (mkP words zs).length c1).ownBlock = some g → g < w7.heap.size := fun g hg => by have := LT1.out g hg; have := LTS.out; have := HS7.out; omega
  have hlt2 : ∀ g, (Value.slice a2 (mkP words zs).length c2).ownBlock = some g → g < w7.heap.size := fun g hg => by have := (LT2.out g hg).2; have := LTS.out; have := HS7.out; omega
  have SA := hidI (keep QA.out hbd)
  have SB := hidI (keep QB.out hbd)
  have HBW8 := hidI (HBW7.out.trans (hbd.mono HBW7.out.size))
  have HS8 := hidI hsz8
  have HL1 := hidI hlt1
  have HL2 := hidI hlt2
  have HB8 := hidI (blk hbd HB7.out)
  have HG8 := hidI (blk hbd HG7.out)
  have HB22 := hidI (show w2.heap.size ≤ w7.heap.size from by have := HB3a.out.size; have := LTS.out; have := HS7.out; have h9 := HB3.out.size; omega)
  have HCALL := hidI (planKeep_any (cnt := 0) (x := mkW words zs) (y := mkS words zs) (nilPlace w8 w2.heap.size w7.heap.size) hkb (zbook_at 10 (by decide) (by decide)) zbook_0 (by decide) (by simp) SA.out (fun g hg => ⟨by simp [Value.ownBlock], by have := hlt1 g hg; omega⟩) (fun i g e h => by simp at h) (by have := HB22.out; omega))
  clear hkb hbd hsz8 hlt1 hlt2
  refine HCALL.out.mono ?_
  rintro e w9 ⟨rfl, hv, hblk, hkind, hchg, hfrom⟩
  rw [List.nil_append] at hkind
  have hSB9 := ownsRow_chg SB.out hchg (fun g hg e => by
    rcases e with e | e
    · have := HL2.out g hg; omega
    · simp [Value.ownBlock] at e)
  have SB9 := hidI hSB9
  have hB9 := chgblk hchg HB8.out (fun e => by
    rcases e with e | e
    · have := LTS.out; have := HS7.out; omega
    · simp [Value.ownBlock] at e)
  have b0 := cell_of_block (o := 0) hB9 rfl
  have b1' := cell_of_block (o := 1) hB9 rfl
  have b2' := cell_of_block (o := 2) hB9 rfl
  simp only [List.getElem_toArray, List.getElem_cons_zero, List.getElem_cons_succ] at b0 b1' b2'
  have HG9 := hidI (chgblk hchg HG8.out (fun e => by
    rcases e with e | e
    · have := lt_of_block HBLK.out; have := HB22.out; omega
    · simp [Value.ownBlock] at e))
  have HBW9 := hidI (Chg.below HBW8.out HBW8.out.size hchg (fun k hk => by
    rcases hk with rfl | hk
    · exact HBW7.out.size
    · simp [Value.ownBlock] at hk))
  have hne2 : ∀ g, (Value.slice a2 (mkP words zs).length c2).ownBlock = some g → hv.ownBlock ≠ some g ∧ g ≠ w7.heap.size := fun g hg => ⟨fun e => by
    rcases hfrom g e with h | h
    · simp [Value.ownBlock] at h
    · have := HL2.out g hg; have := HS8.out; omega, by have := HL2.out g hg; omega⟩
  have hlg2 : ∀ (i g : Nat) (e : EntPlace), ([⟨.slice a1 (mkP words zs).length c1, 0, (mkP words zs).length⟩] : List EntPlace)[i]? = some e → e.lv.ownBlock = some g → (Value.slice a2 (mkP words zs).length c2).ownBlock ≠ some g := fun i g e he hg h2 => by
    obtain rfl : e = ⟨.slice a1 (mkP words zs).length c1, 0, (mkP words zs).length⟩ := by
      cases i with
      | zero => simpa using he.symm
      | succ i => simp at he
    have := LT1.out g hg
    have := (LT2.out g h2).1
    simp at this
    omega
  have HV1 := hidI (fun g (hg : hv.ownBlock = some g) => (rowLt hkind.row hg).1)
  have HCALL2 := hidI (planKeep_any (x := mkW words zs) (y := mkS words zs) hkind hblk (book_setF zbook_size (by decide) (by decide)) (book_set0 zbook_size) (by decide) (by simp) SB9.out hne2 hlg2 (by have := HB22.out; have := hchg.size; have := HS8.out; omega))
  clear HCALL hkind hblk hchg hfrom hne2 hlg2 SA SB hB9 hSB9
  go_wp2_with fail
  clear b0 b1' b2'
  refine HCALL2.out.mono ?_
  rintro e w10 ⟨rfl, hv2, hblk, hkind, hchg, hfrom⟩
  rw [List.singleton_append] at hkind
  have HG10 := hidI (chgblk hchg HG9.out (fun e => by
    rcases e with e | e
    · have := lt_of_block HBLK.out; have := HB22.out; omega
    · have := HV1.out g e; have := lt_of_block HBLK.out; omega))
  have HBW10 := hidI (Chg.below HBW9.out HBW9.out.size hchg (fun k hk => by
    rcases hk with rfl | hk
    · exact HBW7.out.size
    · have := HV1.out k hk; have := HB2.out.size; omega))
  have hM : ∀ (i : Nat) (e : EntPlace), ([⟨.slice a1 (mkP words zs).length c1, 0, (mkP words zs).length⟩, ⟨.slice a2 (mkP words zs).length c2, 0 + 1, (mkP words zs).length⟩] : List EntPlace)[i]? = some e → e.len ≤ 4 := fun i e he => by
    have := List.mem_of_getElem? he
    simp at this
    have hl := HLEN.out
    rcases this with rfl | rfl <;> exact hl
  have HCALL3 := hidI (apartPlace_any hkind hM (by decide) hblk (book_setF (by simp [zbook_size]) (by decide) (by decide)) (fun i h0 h1 h7 => by rw [book_setN (by omega) h7, book_setN (by omega) h7]; exact zbook_at i h0 h1) (by simp))
  have HOWN := hidI (fun k (hk : ownsPlace hv2 [⟨.slice a1 (mkP words zs).length c1, 0, (mkP words zs).length⟩, ⟨.slice a2 (mkP words zs).length c2, 0 + 1, (mkP words zs).length⟩] k) => (hkind.from hk).1)
  clear HCALL2 hkind hblk hchg hfrom hM
  go_wp2_with fail
  refine HCALL3.out.mono ?_
  rintro e w11 ⟨rfl, hchg⟩
  have HG11 := hidI (chgblk hchg HG10.out (fun e => by have := HOWN.out _ e; have := lt_of_block HBLK.out; omega))
  have HBW11 := hidI (Chg.below HBW10.out HBW10.out.size hchg (fun k hk => by have := HOWN.out k hk; have := HB2.out.size; omega))
  clear HCALL3 hchg
  go_wp2_with fail
  refine (leftNumbers_true (l := zs) HG11.out (Rd.below (Ints.to_rd HZ.out) HBW11.out) (by omega)).mono ?_
  rintro e w12 ⟨rfl, hb⟩
  have HBW12 := hidI (HBW11.out.trans (hb.mono HBW11.out.size))
  clear hb
  go_wp2_with fail
  refine (lives_any _).mono ?_
  rintro e w13 ⟨rfl, hb⟩
  have HBW13 := hidI (HBW12.out.trans (hb.mono HBW12.out.size))
  clear hb
  go_wp2_with fail
  go_ret
  exact ⟨rfl, HBW13.out⟩
end Go.Proofs.YtilkpmjkiohfdaaGreatDoor

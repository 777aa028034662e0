/- alive answers true; BufferNone's walk. -/
import Derived.Test.YtodljbhgiccioaaBufB
namespace Go.Proofs.Ytodljbhgiccioaa
open Go.RowKit

theorem NoRing.below {w w' : World} {p : Value} (h : NoRing w p) (hb : Below w.heap.size w w') : NoRing w' p := by
  rcases h with rfl | ⟨b, c, rfl, hbk, hc⟩
  · exact .inl rfl
  · exact .inr ⟨b, c, rfl, blk hb hbk, hc⟩
theorem NoRing.alloc {w : World} {p : Value} (h : NoRing w p) (o : Obj) : NoRing (w.alloc o) p := h.below ((Below.refl _ _).alloc (Nat.le_refl _) _)

set_option maxHeartbeats 1000000 in
theorem alive_any (w : World) : Calls Try.prog 12 #[] w fun e w' => e = .returned (.bool true) ∧ Below w.heap.size w w' := by
  go_enter Try.func12, Try.ntmps12
  go_wp2_with fail
  refine (new_any _).mono ?_
  rintro e w1 ⟨rfl, hw1⟩
  have R0 := hidI (ring_new w)
  rw [← hw1] at R0
  have B1 : Below w.heap.size w w1 := by rw [hw1]; exact (Below.refl _ _).alloc (Nat.le_refl _) _
  clear hw1
  have HB1 := hidI B1
  clear B1
  go_wp2_with fail
  refine (put_some R0.out (by decide) 3 7).mono ?_
  rintro e w2 ⟨rfl, ⟨c2, R2⟩, hc2, hs2⟩
  have HR2 := hidI R2
  clear R2 hs2
  go_wp2_with fail
  refine (put_some HR2.out (by decide) 4 8).mono ?_
  rintro e w3 ⟨rfl, ⟨c3, R3⟩, hc3, hs3⟩
  have HR3 := hidI R3
  clear R3 hs3
  go_wp2_with fail
  refine (put_some HR3.out (by decide) 3 9).mono ?_
  rintro e w4 ⟨rfl, ⟨c4, R4⟩, hc4, hs4⟩
  have HR4 := hidI R4
  clear R4 hs4
  go_wp2_with fail
  refine (find_yes HR4.out 3).mono ?_
  rintro e w5 ⟨rfl, n, rfl⟩
  rw [show findV ([] ++ [((3 : Int), (7 : Int))] ++ [(4, 8)] ++ [(3, 9)]) 3 = .tuple #[.int .i64 9, .bool true] from by kernel_rfl]
  go_wp2_with fail
  refine (take_some (x := (3, 7)) (q := [(4, 8), (3, 9)]) (HR4.out.drewN n)).mono ?_
  rintro e w6 ⟨rfl, ⟨c6, f6, R6⟩, hc6⟩
  have HR6 := hidI (R6.below ((Below.refl _ _).alloc (Nat.le_refl _) (.cells #[.int .i64 3, .int .i64 7] 28)))
  clear R6
  go_wp2_with fail
  refine (len_yes HR6.out).mono ?_
  rintro e w7 ⟨rfl, rfl⟩
  go_wp2
  go_ret
  refine ⟨rfl, ?_⟩
  have g := (((hc2.trans hc3).trans hc4).drewN n).trans hc6
  exact (g.below HB1.out HB1.out.size (by rintro k rfl; exact Nat.le_refl _)).alloc (by have := HB1.out.size; have := g.size; omega) _

/-- the buffer that no call made -/
theorem bare_none (w : World) : NoRing (w.alloc (.cells bareRing 39)) (.pointer (some ⟨w.heap.size, 0, none⟩)) :=
  .inr ⟨_, _, rfl, block_new _ _, by kernel_rfl⟩

set_option maxHeartbeats 1000000 in
theorem none_any (a v : Int) (w : World) : Calls Try.prog 4 #[.int .i64 a, .int .i64 v] w fun e w' => e = .returned (.bool true) ∧ Below w.heap.size w w' := by
  have h1 := zero_ring
  go_enter Try.func4, Try.ntmps4
  go_wp2_with fail
  clear h1
  generalize hW : ((w.alloc (Obj.cells bareRing 39)).alloc (Obj.cells #[Value.pointer none, Value.pointer (some { block := w.heap.size, off := 0 })] 24)) = W
  have hl : W.heap[w.heap.size + 1]? = some (.cells #[Value.pointer none, Value.pointer (some { block := w.heap.size, off := 0 })] 24 (0, 0)) := by rw [← hW]; exact block_new2 _ _ _
  have hN : NoRing W (.pointer (some ⟨w.heap.size, 0, none⟩)) := by rw [← hW]; exact (bare_none w).alloc _
  have hB : Below w.heap.size w W := by rw [← hW]; exact ((Below.refl _ _).alloc (Nat.le_refl _) _).alloc (by simp) _
  have HL := hidI hl
  have HNN := hidI hN
  have HB := hidI hB
  clear hW hl hN hB
  go_loopw [8] (fun i wr => ∃ k : Nat, k ≤ 2 ∧ i = .int .i64 k ∧ Below W.heap.size W wr) (fun i _ => 2 - (intOf i).toNat)
  case atStart => exact ⟨0, by omega, rfl, Below.refl _ _⟩
  case round =>
    obtain ⟨k, hk, rfl, hbr⟩ := hrel
    have hl := blk hbr HL.out
    by_cases h0 : k = 0
    · subst h0
      have c0 : wr.cell? ⟨w.heap.size + 1, 0, none⟩ = some (.pointer none) := cell_of_block hl rfl
      have HN : Hid (NoRing wr (.pointer none)) := hidI (.inl rfl)
      clear hl
      go_wp2_with fail
      refine (put_no HN.out a v).mono ?_
      rintro e w1 ⟨rfl, rfl⟩
      go_wp2_with fail
      refine (take_no HN.out).mono ?_
      rintro e w2 ⟨rfl, hb2⟩
      have HN2 := hidI (HN.out.below hb2)
      go_wp2_with fail
      refine (find_no (HN2.out.alloc _) a).mono ?_
      rintro e w3 ⟨rfl, rfl⟩
      go_wp2_with fail
      refine (len_no (HN2.out.alloc _)).mono ?_
      rintro e w3 ⟨rfl, rfl⟩
      go_wp2_with fail
      refine (all_no (HN2.out.alloc _)).mono ?_
      rintro e w3 ⟨rfl, rfl⟩
      go_wp2_with fail
      exact ⟨⟨1, by omega, by first | rfl | go_num, (bnext hbr hb2).alloc (by have := hbr.size; have := hb2.size; omega) _⟩, by simp [intOf]⟩
    · by_cases h2 : k = 1
      · subst h2
        have c0 : wr.cell? ⟨w.heap.size + 1, 1, none⟩ = some (.pointer (some ⟨w.heap.size, 0, none⟩)) := cell_of_block hl rfl
        have HN := hidI (HNN.out.below hbr)
        clear hl h0
        go_wp2_with fail
        refine (put_no HN.out a v).mono ?_
        rintro e w1 ⟨rfl, rfl⟩
        go_wp2_with fail
        refine (take_no HN.out).mono ?_
        rintro e w2 ⟨rfl, hb2⟩
        have HN2 := hidI (HN.out.below hb2)
        go_wp2_with fail
        refine (find_no (HN2.out.alloc _) a).mono ?_
        rintro e w3 ⟨rfl, rfl⟩
        go_wp2_with fail
        refine (len_no (HN2.out.alloc _)).mono ?_
        rintro e w3 ⟨rfl, rfl⟩
        go_wp2_with fail
        refine (all_no (HN2.out.alloc _)).mono ?_
        rintro e w3 ⟨rfl, rfl⟩
        go_wp2_with fail
        exact ⟨⟨2, by omega, by first | rfl | go_num, (bnext hbr hb2).alloc (by have := hbr.size; have := hb2.size; omega) _⟩, by simp [intOf]⟩
      · obtain rfl : k = 2 := by omega
        clear hl h0 h2
        go_wp2_with fail
        refine (alive_any _).mono ?_
        rintro e w1 ⟨rfl, hb1⟩
        go_wp2
        go_ret
        exact ⟨rfl, bnext (HB.out.trans (hbr.mono HB.out.size)) hb1⟩

end Go.Proofs.Ytodljbhgiccioaa

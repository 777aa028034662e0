/- The walk of PlanNames. -/
import Derived.Test.YtjdjekffkoidmaaPlanParts
namespace Go.Proofs.Ytjdjekffkoidmaa
open Go.RowKit

theorem Ints.lit' (w : World) (zs : List Int) (t : TypeId) : Ints (w.alloc (.cells (zs.map (Value.int .i64)).toArray t)) (.slice (some ⟨w.heap.size, 0, .none⟩) zs.length zs.length) zs := by
  refine ⟨_, _, rfl, Nat.le_refl _, fun i hi => ⟨w.heap.size, 0, rfl, by simp, ?_⟩⟩
  exact cell_of_block (block_new _ _) (by simp [nth, hi])

theorem Ints.lit (w : World) (zs : List Int) (t : TypeId) (n : Nat) (c : Array Value) (hn : zs.length = n) (hc : c = (zs.map (Value.int .i64)).toArray) : Ints (w.alloc (.cells c t)) (.slice (some ⟨w.heap.size, 0, .none⟩) zs.length n) zs := by
  subst hn; subst hc; exact Ints.lit' w zs t

/-- Make at a literal list -/
theorem make_lit (words : Int) (zs : List Int) (n : Nat) (c : Array Value) (t : TypeId) (w : World) (b : Nat) (hb : w.heap.size = b) (hn : zs.length = n) (hc : c = (zs.map (Value.int .i64)).toArray) (hm : n < 100) :
    Calls Try.prog 8 #[.int .i64 words, .slice (some ⟨b, 0, .none⟩) n n] (w.alloc (.cells c t)) (MkPost words zs (w.alloc (.cells c t))) := by
  subst hb
  have := make_any words _ zs n _ (Ints.lit w zs t n c hn hc) (by omega)
  rwa [hn] at this

set_option maxRecDepth 100000 in
set_option maxHeartbeats 1000000 in
theorem names_any (w : World) : Calls Try.prog 7 #[] w fun e w' => e = .returned (.bool true) ∧ Below w.heap.size w w' := by
  have E1 := hidI (show mkErr 3 [] = 0 ∧ (fin [] (s0 3)).1 = 21 from by decide +kernel)
  have E2 := hidI (show mkErr 0 [10, 0] = 0 ∧ (fin [10, 0] (s0 0)).1 = 8604 from by decide +kernel)
  have E3 := hidI (show mkErr 0 [-1] = 1 from by decide +kernel)
  have E4 := hidI (show mkErr 0 [0, 0, 0, 0, 0] = 3 from by decide +kernel)
  have E5 := hidI (show mkErr 4611686018427387904 [4611686018427387904] = 3 from by decide +kernel)
  go_enter Try.func7, Try.ntmps7
  go_wp2_with fail
  refine (make_any 3 _ [] _ _ (Ints.none _) (by simp)).mono ?_
  rintro e w1 ⟨v, rfl, -, hown, hb1⟩
  rw [E1.out.1, E1.out.2]
  obtain ⟨ao, c, rfl⟩ := ownsRow_shape (hown E1.out.1)
  clear hown
  go_wp2_with fail
  refine (make_lit 0 [10, 0] _ _ _ _ _ (by simp) rfl rfl (by decide)).mono ?_
  rintro e w2 ⟨v, rfl, -, hown, hb2⟩
  have ho := hown E2.out.1
  rw [E2.out.1, E2.out.2]
  obtain ⟨ao2, c2, rfl⟩ := ownsRow_shape ho
  clear hown
  obtain ⟨g, cur, hg1, hg2, hg3, hg4, hg5⟩ := ownsRow_some ho (by decide)
  subst hg1
  have HG := hidI hg5
  have HG3 := hidI hg3
  clear ho hg2 hg3 hg4 hg5
  go_wp2_with fail
  refine (make_lit 0 [-1] _ _ _ _ _ (by simp) rfl rfl (by decide)).mono ?_
  rintro e w3 ⟨v, rfl, hv, -, hb3⟩
  rw [E3.out]
  obtain rfl := hv (by rw [E3.out]; decide)
  clear hv
  go_wp2_with fail
  refine (make_lit 0 [0, 0, 0, 0, 0] _ _ _ _ _ (by simp) rfl rfl (by decide)).mono ?_
  rintro e w4 ⟨v, rfl, hv, -, hb4⟩
  rw [E4.out]
  obtain rfl := hv (by rw [E4.out]; decide)
  clear hv
  go_wp2_with fail
  refine (make_lit 4611686018427387904 [4611686018427387904] _ _ _ _ _ (by simp) rfl rfl (by decide)).mono ?_
  rintro e w5 ⟨v, rfl, hv, -, hb5⟩
  rw [E5.out]
  obtain rfl := hv (by rw [E5.out]; decide)
  clear hv
  go_wp2_with fail
  refine (locked_odd _ _ (by rw [and_1]; decide)).mono ?_
  rintro e w6 ⟨rfl, rfl⟩
  rw [show (7 : Int) / 2 = 3 from rfl]
  have hp : (w5.alloc (.cells #[.int .i64 0, .slice .none 0 0, .int .i64 0] 25)).heap[w1.heap.size]? = some (.cells #[.int .i64 3, .slice ao 0 c, .int .i64 21] 25 (0, 0)) :=
    block_alloc (blkAA hb5 (blkAA hb4 (blkAA hb3 (blk hb2 (block_alloc (block_new _ _))))))
  have hq : (w5.alloc (.cells #[.int .i64 0, .slice .none 0 0, .int .i64 0] 25)).heap[w2.heap.size]? = some (.cells #[.int .i64 0, .slice (some ⟨g, 0, .none⟩) 2 c2, .int .i64 8604] 25 (0, 0)) :=
    block_alloc (blkAA hb5 (blkAA hb4 (blk hb3 (block_alloc (block_new _ _)))))
  have hg : (w5.alloc (.cells #[.int .i64 0, .slice .none 0 0, .int .i64 0] 25)).heap[g]? = some (.cells cur 33 (0, 0)) :=
    block_alloc (blkAA hb5 (blkAA hb4 (blkAA hb3 HG3.out)))
  have er : rows [10, 0] (s0 0) = [.int .i64 18, .int .i64 28, .int .i64 156, .int .i64 220, .int .i64 4316, .int .i64 4316, .int .i64 4316, .int .i64 4444, .int .i64 4508, .int .i64 8604] := by kernel_rfl
  have hcur : ∀ (j : Nat) u, [Value.int .i64 18, .int .i64 28, .int .i64 156, .int .i64 220, .int .i64 4316, .int .i64 4316, .int .i64 4316, .int .i64 4444, .int .i64 4508, .int .i64 8604][j]? = some u → cur[j]? = some u := by rw [← er]; exact HG.out
  have x0 := cell_of_block (o := 0) hg (hcur 0 _ rfl)
  have x1 := cell_of_block (o := 1) hg (hcur 1 _ rfl)
  have x2 := cell_of_block (o := 2) hg (hcur 2 _ rfl)
  have x3 := cell_of_block (o := 3) hg (hcur 3 _ rfl)
  have x4 := cell_of_block (o := 4) hg (hcur 4 _ rfl)
  have x5 := cell_of_block (o := 5) hg (hcur 5 _ rfl)
  have p2 : (w5.alloc (.cells #[.int .i64 0, .slice .none 0 0, .int .i64 0] 25)).cell? ⟨w1.heap.size, 2, .none⟩ = some (.int .i64 21) := cell_of_block hp rfl
  have q1 : (w5.alloc (.cells #[.int .i64 0, .slice .none 0 0, .int .i64 0] 25)).cell? ⟨w2.heap.size, 1, .none⟩ = some (.slice (some ⟨g, 0, .none⟩) 2 c2) := cell_of_block hq rfl
  have q2 : (w5.alloc (.cells #[.int .i64 0, .slice .none 0 0, .int .i64 0] 25)).cell? ⟨w2.heap.size, 2, .none⟩ = some (.int .i64 8604) := cell_of_block hq rfl
  have HB := hidI (bnextAA (bnextAA (bnextAA (bnextAA hb1 hb2) hb3) hb4) hb5)
  clear hp hq hg er hcur hb1 hb2 hb3 hb4 hb5 HG HG3 E1 E2 E3 E4 E5
  go_wp2_with fail
  refine (lives_any _).mono ?_
  rintro e w6 ⟨rfl, hb6⟩
  clear x0 x1 x2 x3 x4 x5 p2 q1 q2
  go_wp2_with fail
  refine (stripe_any _ _).mono ?_
  rintro e w7 ⟨rfl, rfl⟩
  rw [show stripeOf (-1) = 15 from by decide +kernel]
  go_wp2
  go_ret
  exact ⟨rfl, bnextA HB.out hb6⟩

end Go.Proofs.Ytjdjekffkoidmaa

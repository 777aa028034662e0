/- lives of the plan's laws answers true. -/
import Derived.Test.YtilkpmjkiohfdaaGreatDoorPlanMake
namespace Go.Proofs.YtilkpmjkiohfdaaGreatDoor
open Go.RowKit

theorem Ints.one (w : World) (z : Int) (t : TypeId) : Ints (w.alloc (.cells #[.int .i64 z] t)) (.slice (some ⟨w.heap.size, 0, none⟩) 1 1) [z] := by
  refine ⟨_, 1, rfl, by simp, fun i hi => ⟨w.heap.size, 0, rfl, by simp, ?_⟩⟩
  obtain rfl : i = 0 := by simp at hi; omega
  exact cell_of_one (block_new _ _)

theorem Ints.none (w : World) : Ints w (.slice .none 0 0) [] := ⟨.none, 0, rfl, by simp, fun i hi => by simp at hi⟩

set_option maxHeartbeats 1000000 in
theorem lives_any (w : World) : Calls Tryz.prog 15 #[] w fun e w' => e = .returned (.bool true) ∧ Below w.heap.size w w' := by
  have e1 : mkErr 3 [10] = 0 := by decide +kernel
  have e2 : (fin [10] (s0 3)).1 = 4319 := by decide +kernel
  have e3 : mkErr (-1) [] = 1 := by decide +kernel
  have E1 := hidI e1
  have E2 := hidI e2
  have E3 := hidI e3
  clear e1 e2 e3
  go_enter Tryz.func15, Tryz.ntmps15
  go_wp2_with fail
  refine (make_any 3 _ [10] _ _ (Ints.one _ _ _) (by simp)).mono ?_
  rintro e w1 ⟨v, rfl, -, hown, hb1⟩
  rw [E1.out, E2.out] 
  obtain ⟨ao, c, rfl⟩ := ownsRow_shape (hown E1.out)
  clear hown
  go_wp2_with fail
  refine (make_any (-1) _ [] _ _ (Ints.none _) (by simp)).mono ?_
  rintro e w2 ⟨v, rfl, hv, -, hb2⟩
  rw [E3.out]
  obtain rfl := hv (by rw [E3.out]; decide)
  have hz := hb2.size
  simp only [World.size_alloc] at hz
  have hp : w2.heap[w1.heap.size]? = some (.cells #[.int .i64 3, .slice ao 1 c, .int .i64 4319] 27 (0, 0)) := by
    rw [hb2.block _ (by simp)]; exact block_new _ _
  have hp2 := block_alloc (o := .cells #[.int .i64 0, .slice .none 0 0, .int .i64 0] 27) hp
  have c0 := cell_of_block (o := 0) hp2 rfl
  have c1 := cell_of_block (o := 1) hp2 rfl
  have c2 := cell_of_block (o := 2) hp2 rfl
  simp only [List.getElem_toArray, List.getElem_cons_zero, List.getElem_cons_succ] at c0 c1 c2
  have HP := hidI hp2
  clear hp hp2 hv
  go_wp2_with fail
  refine (clock_any _ _ _ _).mono ?_
  rintro e w3 ⟨rfl, hb3⟩
  rw [show wrap64 (3 + 1) = 4 from by decide +kernel]
  have hp3 := blk hb3 HP.out
  clear c0 c1 c2
  have c0 := cell_of_block (o := 0) hp3 rfl
  have c1 := cell_of_block (o := 1) hp3 rfl
  have c2 := cell_of_block (o := 2) hp3 rfl
  simp only [List.getElem_toArray, List.getElem_cons_zero, List.getElem_cons_succ] at c0 c1 c2
  have HP3 := hidI hp3
  clear hp3
  go_wp2_with fail
  refine (lock_any _ _ _ _ _).mono ?_
  rintro e w4 ⟨rfl, hb4⟩
  have hp4 := blk hb4 HP3.out
  clear c0 c1 c2
  have c2 := cell_of_block (o := 2) hp4 rfl
  simp only [List.getElem_toArray, List.getElem_cons_zero, List.getElem_cons_succ] at c2
  rw [show wrap64 (wrap64 (3 + 2) + stripeOf 17) = 6 from by decide +kernel]
  clear hp4
  go_wp2
  go_ret
  refine ⟨rfl, ?_⟩
  exact bnextA (bnextA (bnext ((Below.refl _ _).alloc (Nat.le_refl _) _) hb1) hb2) (bnext hb3 hb4)

end Go.Proofs.YtilkpmjkiohfdaaGreatDoor

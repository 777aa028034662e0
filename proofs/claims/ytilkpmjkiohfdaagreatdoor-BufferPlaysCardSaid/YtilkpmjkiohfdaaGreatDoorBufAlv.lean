/- alive answers true. -/
import Derived.Test.YtilkpmjkiohfdaaGreatDoorBufB
namespace Go.Proofs.YtilkpmjkiohfdaaGreatDoor
open Go.RowKit

theorem NoRing.below {w w' : World} {p : Value} (h : NoRing w p) (hb : Below w.heap.size w w') : NoRing w' p := by
  rcases h with rfl | ⟨b, c, rfl, hbk, hc⟩
  · exact .inl rfl
  · exact .inr ⟨b, c, rfl, blk hb hbk, hc⟩
theorem NoRing.alloc {w : World} {p : Value} (h : NoRing w p) (o : Obj) : NoRing (w.alloc o) p := h.below ((Below.refl _ _).alloc (Nat.le_refl _) _)

set_option maxHeartbeats 1000000 in
theorem alive_any (w : World) : Calls Tryz.prog 28 #[] w fun e w' => e = .returned (.bool true) ∧ Below w.heap.size w w' := by
  go_enter Tryz.func28, Tryz.ntmps28
  go_wp2_with fail
  refine (new_any _).mono ?_
  rintro e w1 ⟨rfl, hw1⟩
  have R0 := hidI (ring_new w)
  rw [← hw1] at R0
  have B1 : Below w.heap.size w w1 := by rw [hw1]; exact (Below.refl _ _).alloc (Nat.le_refl _) _
  clear hw1
  have HB1 := hidI B1
  clear B1
  go_wp2_with fail
  refine (put_some R0.out (by decide) 3 7).mono ?_
  rintro e w2 ⟨rfl, ⟨c2, R2⟩, hc2, hs2⟩
  have HR2 := hidI R2
  clear R2 hs2
  go_wp2_with fail
  refine (put_some HR2.out (by decide) 4 8).mono ?_
  rintro e w3 ⟨rfl, ⟨c3, R3⟩, hc3, hs3⟩
  have HR3 := hidI R3
  clear R3 hs3
  go_wp2_with fail
  refine (put_some HR3.out (by decide) 3 9).mono ?_
  rintro e w4 ⟨rfl, ⟨c4, R4⟩, hc4, hs4⟩
  have HR4 := hidI R4
  clear R4 hs4
  go_wp2_with fail
  refine (find_yes HR4.out 3).mono ?_
  rintro e w5 ⟨rfl, n, rfl⟩
  rw [show findV ([] ++ [((3 : Int), (7 : Int))] ++ [(4, 8)] ++ [(3, 9)]) 3 = .tuple #[.int .i64 9, .bool true] from by kernel_rfl]
  go_wp2_with fail
  refine (take_some (x := (3, 7)) (q := [(4, 8), (3, 9)]) (HR4.out.drewN n)).mono ?_
  rintro e w6 ⟨rfl, ⟨c6, f6, R6⟩, hc6⟩
  have HR6 := hidI (R6.below ((Below.refl _ _).alloc (Nat.le_refl _) (.cells #[.int .i64 3, .int .i64 7] 76)))
  clear R6
  go_wp2_with fail
  refine (len_yes HR6.out).mono ?_
  rintro e w7 ⟨rfl, rfl⟩
  go_wp2
  go_ret
  refine ⟨rfl, ?_⟩
  have g := (((hc2.trans hc3).trans hc4).drewN n).trans hc6
  exact (g.below HB1.out HB1.out.size (by rintro k rfl; exact Nat.le_refl _)).alloc (by have := HB1.out.size; have := g.size; omega) _

end Go.Proofs.YtilkpmjkiohfdaaGreatDoor

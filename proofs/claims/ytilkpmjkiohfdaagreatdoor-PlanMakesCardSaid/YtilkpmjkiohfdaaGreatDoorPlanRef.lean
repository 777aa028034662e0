/- The document's Make: the same plan. -/
import Derived.Test.YtilkpmjkiohfdaaGreatDoorPlanSum
import Derived.Deep.RegionLawGrows
import Derived.Deep.RegionHeld3
namespace Go.Proofs.YtilkpmjkiohfdaaGreatDoor
open Go.RowKit
set_option linter.unusedVariables false
set_option linter.unusedSimpArgs false

/-- how the document's Make stands: the plan p in block P, what p.Threads owns -/
structure RfSt (w wr : World) (P : Nat) (words : Int) (v : Value) (k : Nat) (xs : List Value) : Prop where
  p : wr.heap[P]? = some (.cells #[.int .i64 words, v, .int .i64 0] 27 (0, 0))
  own : wr.ownsRow (P + 1) 110 5 v k xs
  ge : w.heap.size ≤ P
  bel : Below w.heap.size w wr

theorem RfSt.next {w wr w' : World} {P k : Nat} {words : Int} {v v' : Value} {xs ys : List Value} {o o' : Obj} (h : RfSt w wr P words v k xs) (ho : w'.ownsRow (P + 1) 110 5 v' (k + 1) ys)
    (hg : World.grownBy ((wr.alloc o).drew.alloc o') w' v.ownBlock) :
    w'.heap[P]? = some (.cells #[.int .i64 words, v, .int .i64 0] 27 (0, 0)) ∧ RfSt w (w'.setCell ⟨P, 1, none⟩ v') P words v' (k + 1) ys ∧ ∀ R x, R < P → wr.heap[R]? = some x → (w'.setCell ⟨P, 1, none⟩ v').heap[R]? = some x := by
  have hP := lt_of_block h.p
  have hk : ∀ b, b < P + 1 → w'.heap[b]? = wr.heap[b]? := fun b hb => by
    rw [hg.block b (by rw [World.size_alloc]; show b < (wr.alloc o).heap.size + 1; rw [World.size_alloc]; omega) (fun e => by have := h.own.lt b e.symm; omega), Below.heap_alloc _ _ _ (by show b < (wr.alloc o).heap.size; rw [World.size_alloc]; omega)]
    exact Below.heap_alloc _ _ _ (by omega)
  have hp' : w'.heap[P]? = some (.cells #[.int .i64 words, v, .int .i64 0] 27 (0, 0)) := by rw [hk P (by omega)]; exact h.p
  have hge := h.ge
  refine ⟨hp', ⟨block_setCell v' hp', ownsRow_setCell_below ho (by simp) _, h.ge, ?_⟩, fun R x hR hx => ?_⟩
  · have hc : Chg (fun j => v.ownBlock = some j) wr w' := ((((Chg.refl _ wr).alloc o).drew).alloc o').grown hg (fun k hk => .inl hk)
    exact (Chg.below h.bel (by omega) hc (fun j hj => by have := h.own.lt j hj; omega)).setCell (by simp; omega) _
  · rw [Below.heap_setCell _ _ _ _ (by simp; omega), hk R (by omega)]; exact hx

theorem rowOf (a n : Int) : rrow n a = [.int .i64 a, .int .i64 (a + n), .int .i64 (a + n + 128), .int .i64 (a + n + 128 + 64), .int .i64 (a + n + 128 + 64 + 4096)] := rfl

set_option maxRecDepth 100000 in
set_option maxHeartbeats 4000000 in
theorem rmake_any (words : Int) (ao : Option Addr) (zs : List Int) (cap : Nat) (w : World) (hz : Ints w (.slice ao zs.length cap) zs) (hm : zs.length ≤ 9223372036854775807) :
    Calls Tryz.prog 10 #[.int .i64 words, .slice ao zs.length cap] w (MkPost words zs w) := by
  have HZ := hidI hz
  obtain ⟨i0, hi, hz0, hz1, hz2⟩ := info_parts Tryz.info110
  clear hz
  by_cases hw : words < 0
  · go_enter Tryz.func10, Tryz.ntmps10
    go_wp2
    refine bodyPost_ret (v := .tuple #[.agg #[.int .i64 0, .slice none 0 0, .int .i64 0], .int .i64 1]) (by simp [results, Tryz.results10, go_sem]) rfl ?_
    exact MkPost.err 1 (by omega) (by simp [mkErr, hw]) ((Below.refl _ _).alloc (Nat.le_refl _) _)
  go_enter Tryz.func10, Tryz.ntmps10
  go_wp2
  go_loop [6] (fun i => ∃ k : Nat, k ≤ zs.length ∧ i = .int .i64 k ∧ ∀ j, j < k → 0 ≤ nth zs j) (fun i => zs.length - (intOf i).toNat)
  case atStart => exact ⟨0, Nat.zero_le _, rfl, fun j hj => by omega⟩
  case round =>
    obtain ⟨k, hk, rfl, hall⟩ := hrel
    have Hall := hidI hall
    clear hall
    by_cases hlt : k < zs.length
    · obtain ⟨b, off, hao, hbs, hcell⟩ := Ints.at HZ.out hlt
      subst hao
      have hc2 : (w.alloc (Obj.cells #[Value.int IntKind.i64 0, Value.slice none 0 0, Value.int IntKind.i64 0] 27)).cell? ⟨b, off + k, none⟩ = some (.int .i64 (nth zs k)) := cell_later ((Below.refl _ _).alloc (Nat.le_refl _) _) hcell
      clear hcell
      by_cases hz : nth zs k < 0
      · go_wp2
        refine bodyPost_ret (v := .tuple #[.agg #[.int .i64 0, .slice none 0 0, .int .i64 0], .int .i64 1]) (by simp [results, Tryz.results10, go_sem]) rfl ?_
        refine MkPost.err 1 (by omega) ?_ ((Below.refl _ _).alloc (Nat.le_refl _) _)
        rw [mkErr, if_neg (by omega), if_pos ⟨k, hlt, hz⟩]
      · go_wp2
        refine ⟨⟨k + 1, by omega, by go_num, fun j hj => ?_⟩, by simp [intOf]; omega⟩
        rcases Nat.lt_or_ge j k with h | h
        · exact Hall.out j h
        · obtain rfl : j = k := by omega
          omega
    · obtain rfl : k = zs.length := by omega
      clear hk hlt
      by_cases h4 : 4 < zs.length
      · go_wp2
        refine bodyPost_ret (v := .tuple #[.agg #[.int .i64 0, .slice none 0 0, .int .i64 0], .int .i64 3]) (by simp [results, Tryz.results10, go_sem]) rfl ?_
        refine MkPost.err 3 (by omega) ?_ ((Below.refl _ _).alloc (Nat.le_refl _) _)
        rw [mkErr, if_neg (by omega), if_neg (by rintro ⟨j, hj, hj'⟩; have := Hall.out j hj; omega), if_pos h4]
      · have HE := hidI (mkErr_sum (words := words) (zs := zs) (by omega) Hall.out (by omega))
        have HP := hidI (sumF_pos (nth_mem Hall.out))
        by_cases hw4 : 262144 < words
        · go_wp2
          refine bodyPost_ret (v := .tuple #[.agg #[.int .i64 0, .slice none 0 0, .int .i64 0], .int .i64 3]) (by simp [results, Tryz.results10, go_sem]) rfl ?_
          refine MkPost.err 3 (by omega) ?_ ((Below.refl _ _).alloc (Nat.le_refl _) _)
          rw [HE.out, if_neg (by have := HP.out; omega)]
        · have HW4 := hidI hw4
          go_wp2_with fail
          have HR0 := hidI (block_alloc (o := .cells #[.int .i64 words, .slice none 0 0, .int .i64 0] 27) (block_new w (.cells #[.int .i64 0, .slice none 0 0, .int .i64 0] 27)))
          have HS0 : Hid (RfSt w ((w.alloc (Obj.cells #[Value.int IntKind.i64 0, Value.slice none 0 0, Value.int IntKind.i64 0] 27)).alloc (Obj.cells #[Value.int IntKind.i64 words, Value.slice none 0 0, Value.int IntKind.i64 0] 27)) (w.heap.size + 1) words (.slice none 0 0) 0 []) :=
            hidI ⟨block_new2 _ _ _, World.ownsRow_nil _ _ _ _, by omega, ((Below.refl _ _).alloc (Nat.le_refl _) _).alloc (by simp) _⟩
          go_loopw [9, 8] (fun i a wr => ∃ (k : Nat) (v : Value), k ≤ zs.length ∧ i = .int .i64 k ∧ a = .int .i64 (words + 18 + sumF (zs.take k)) ∧ sumF (zs.take k) ≤ 266432 * k ∧ Hid (wr.heap[w.heap.size]? = some (.cells #[.int .i64 0, .slice none 0 0, .int .i64 0] 27 (0, 0))) ∧
            Hid (RfSt w wr (w.heap.size + 1) words v k (rrows (zs.take k) (words + 18)))) (fun i _ _ => zs.length - (intOf i).toNat)
          case atStart => exact ⟨0, .slice none 0 0, Nat.zero_le _, rfl, by simp [sumF, Int.add_assoc], by simp [sumF], HR0, HS0⟩
          case round =>
            obtain ⟨k, v, hk, rfl, rfl, hsum, HR, HS⟩ := hrel
            have hs0 := sumF_pos (l := zs.take k) (fun n hn => nth_mem Hall.out n (List.mem_of_mem_take hn))
            by_cases hlt : k < zs.length
            · obtain ⟨b, off, hao, hbs, hcell⟩ := Ints.at HZ.out hlt
              subst hao
              have hc2 := cell_later HS.out.bel hcell
              clear hcell
              by_cases hz : 262144 < nth zs k
              · have cR0 : wr.cell? ⟨w.heap.size, 0, none⟩ = some (.int .i64 0) := cell_of_block HR.out rfl
                have cR1 : wr.cell? ⟨w.heap.size, 1, none⟩ = some (.slice none 0 0) := cell_of_block HR.out rfl
                have cR2 : wr.cell? ⟨w.heap.size, 2, none⟩ = some (.int .i64 0) := cell_of_block HR.out rfl
                have fR0 : wr.frozen? ⟨w.heap.size, 0, none⟩ = false := free_of_block HR.out
                have fR1 : wr.frozen? ⟨w.heap.size, 1, none⟩ = false := free_of_block HR.out
                have fR2 : wr.frozen? ⟨w.heap.size, 2, none⟩ = false := free_of_block HR.out
                have hm := sumF_mem (nth_mem Hall.out) (x := nth zs k) (by rw [nth, List.getD_eq_getElem?_getD, List.getElem?_eq_getElem hlt]; simp)
                go_wp2_with fail
                have hR := block_setCell (o := 2) (.int .i64 0) (block_setCell (o := 1) (.slice none 0 0) (block_setCell (o := 0) (.int .i64 0) HR.out))
                refine bodyPost_ret (v := .tuple #[.agg #[.int .i64 0, .slice none 0 0, .int .i64 0], .int .i64 3]) ?_ rfl ?_
                · have c0 := cell_of_block (o := 0) hR rfl
                  have c1 := cell_of_block (o := 1) hR rfl
                  have c2 := cell_of_block (o := 2) hR rfl
                  simp [results, Tryz.results10, go_sem, c0, c1, c2]
                · exact MkPost.err 3 (by omega) (by rw [HE.out, if_neg (by omega)]) (((HS.out.bel.setCell (by simp) _).setCell (by simp) _).setCell (by simp) _)
              · have hn0 : 0 ≤ nth zs k := Hall.out k hlt
                have HT := hidI (take_snoc_nth zs k hlt)
                generalize hsv : sumF (zs.take k) = sv at *
                have HSV := hidI hsv
                clear hsv
                have hx : ∀ o, (wr.alloc o).cell? ⟨b, off + k, none⟩ = some (.int .i64 (nth zs k)) := fun o => by rw [World.cell?_alloc_lt _ _ _ (World.block_lt_of_cell? wr _ hc2)]; exact hc2
                obtain ⟨ao7, c7, rfl⟩ := ownsRow_shape HS.out.own
                have cP1 : wr.cell? ⟨w.heap.size + 1, 1, none⟩ = some (.slice ao7 k c7) := cell_of_block HS.out.p rfl
                have hne : ¬ wr.heap.size = b := by have h9 : b < wr.heap.size := World.block_lt_of_cell? wr _ hc2; omega
                go_wp2_with fail
                have hw1 : IntKind.i64.wrap (words + 18 + sv + nth zs k) = words + 18 + sv + nth zs k := IntWalk.i64_in _ (by omega)
                go_region_law (fail)
                all_goals (
                  have cP2 : ∀ o, (wr.alloc o).drew.cell? ⟨w.heap.size + 1, 1, none⟩ = some (.slice ao7 k c7) := fun o => by rw [World.cell?_drew, World.cell?_alloc_lt _ _ _ (lt_of_block HS.out.p)]; exact cP1
                  go_wp2_with (at_builtin; refine wpList_append_s _ rfl _ _ 25 rfl (w.heap.size + 1 + 1) 110 i0 _ 5 40 Tryz.underlying25 hi hz0 hz1 hz2 rfl (by decide) _ _ _ rfl (ownsRow_chg HS.out.own ((((Chg.refl (fun _ => False) wr).alloc _).drew).alloc _) (fun _ _ => id)) ⟨wr.heap.size + 1, 0, none⟩ 1 1 (rrow (nth zs k) (words + 18 + sv)) rfl rfl ?c1 ?c2 ?c3 ?c4 ?c5 ?_)
                  case c1 => exact news_at (block_new2 _ _ _)
                  case c2 => intro u hu; simp [rrow] at hu; rcases hu with rfl | rfl | rfl | rfl | rfl <;> rfl
                  case c3 => unfold maxLen; omega
                  case c4 => omega
                  case c5 => have := lt_of_block HS.out.p; simp; omega
                  intro ao8 c8 w7 hown7 hgrow
                  have HN := hidI (RfSt.next HS.out hown7 hgrow)
                  have cP7 : w7.cell? ⟨w.heap.size + 1, 1, none⟩ = some (.slice ao7 k c7) := cell_of_block HN.out.1 rfl
                  have fP7 : w7.frozen? ⟨w.heap.size + 1, 1, none⟩ = false := free_of_block HN.out.1
                  clear hown7 hgrow cP1 cP2
                  go_wp2_with fail
                  refine ⟨⟨k + 1, .slice ao8 (k + 1) c8, by omega, by go_num, ?_, ?_, hidI (HN.out.2.2 _ _ (by omega) HR.out), hidI ?_⟩, by simp [intOf]; omega⟩
                  · rw [HT.out, sumF_snoc, HSV.out]
                    congr 1
                    omega
                  · rw [HT.out, sumF_snoc, HSV.out]; omega
                  · rw [HT.out, rrows_snoc, HSV.out]; exact HN.out.2.1)
            · obtain rfl : k = zs.length := by omega
              by_cases hov : words + 18 + sumF zs ≤ 262144
              · have cR0 : wr.cell? ⟨w.heap.size, 0, none⟩ = some (.int .i64 0) := cell_of_block HR.out rfl
                have cR1 : wr.cell? ⟨w.heap.size, 1, none⟩ = some (.slice none 0 0) := cell_of_block HR.out rfl
                have cR2 : wr.cell? ⟨w.heap.size, 2, none⟩ = some (.int .i64 0) := cell_of_block HR.out rfl
                have fR0 : wr.frozen? ⟨w.heap.size, 0, none⟩ = false := free_of_block HR.out
                have fR1 : wr.frozen? ⟨w.heap.size, 1, none⟩ = false := free_of_block HR.out
                have fR2 : wr.frozen? ⟨w.heap.size, 2, none⟩ = false := free_of_block HR.out
                rw [List.take_length] at *
                have cP0 : wr.cell? ⟨w.heap.size + 1, 0, none⟩ = some (.int .i64 words) := cell_of_block HS.out.p rfl
                have cP1 : wr.cell? ⟨w.heap.size + 1, 1, none⟩ = some v := cell_of_block HS.out.p rfl
                have cP2 : wr.cell? ⟨w.heap.size + 1, 2, none⟩ = some (.int .i64 0) := cell_of_block HS.out.p rfl
                have fP2 : wr.frozen? ⟨w.heap.size + 1, 2, none⟩ = false := free_of_block HS.out.p
                obtain ⟨ao7, c7, rfl⟩ := ownsRow_shape HS.out.own
                go_wp2_with fail
                have hR := block_setCell (o := 2) (.int .i64 (words + 18 + sumF zs)) (block_setCell (o := 1) (.slice ao7 zs.length c7) (block_setCell (o := 0) (.int .i64 words) (block_other (a := ⟨w.heap.size + 1, 2, none⟩) (u := .int .i64 (words + 18 + sumF zs)) HR.out (by simp))))
                have h0 : mkErr words zs = 0 := by rw [HE.out, if_pos hov]
                obtain ⟨e1, e2⟩ := mk_sum (by omega) Hall.out hov
                refine bodyPost_ret (v := .tuple #[.agg #[.int .i64 words, .slice ao7 zs.length c7, .int .i64 (words + 18 + sumF zs)], .int .i64 0]) ?_ rfl ?_
                · have c0 := cell_of_block (o := 0) hR rfl
                  have c1 := cell_of_block (o := 1) hR rfl
                  have c2 := cell_of_block (o := 2) hR rfl
                  simp [results, Tryz.results10, go_sem, c0, c1, c2]
                · refine ⟨.slice ao7 zs.length c7, by rw [h0, e1]; simp, fun h => absurd h0 h, fun _ => ?_, (((HS.out.bel.setCell (by simp) _).setCell (by simp) _).setCell (by simp) _).setCell (by simp) _⟩
                  rw [e2]
                  exact ownsRow_mono (ownsRow_setCell_below (ownsRow_setCell_below (ownsRow_setCell_below (ownsRow_setCell_below HS.out.own (by simp) _) (by simp; omega) _) (by simp; omega) _) (by simp; omega) _) (by omega)
              · have cR0 : wr.cell? ⟨w.heap.size, 0, none⟩ = some (.int .i64 0) := cell_of_block HR.out rfl
                have cR1 : wr.cell? ⟨w.heap.size, 1, none⟩ = some (.slice none 0 0) := cell_of_block HR.out rfl
                have cR2 : wr.cell? ⟨w.heap.size, 2, none⟩ = some (.int .i64 0) := cell_of_block HR.out rfl
                have fR0 : wr.frozen? ⟨w.heap.size, 0, none⟩ = false := free_of_block HR.out
                have fR1 : wr.frozen? ⟨w.heap.size, 1, none⟩ = false := free_of_block HR.out
                have fR2 : wr.frozen? ⟨w.heap.size, 2, none⟩ = false := free_of_block HR.out
                rw [List.take_length] at *
                go_wp2_with fail
                have hR := block_setCell (o := 2) (.int .i64 0) (block_setCell (o := 1) (.slice none 0 0) (block_setCell (o := 0) (.int .i64 0) HR.out))
                refine bodyPost_ret (v := .tuple #[.agg #[.int .i64 0, .slice none 0 0, .int .i64 0], .int .i64 3]) ?_ rfl ?_
                · have c0 := cell_of_block (o := 0) hR rfl
                  have c1 := cell_of_block (o := 1) hR rfl
                  have c2 := cell_of_block (o := 2) hR rfl
                  simp [results, Tryz.results10, go_sem, c0, c1, c2]
                · exact MkPost.err 3 (by omega) (by rw [HE.out, if_neg (by omega)]) (((HS.out.bel.setCell (by simp) _).setCell (by simp) _).setCell (by simp) _)

end Go.Proofs.YtilkpmjkiohfdaaGreatDoor

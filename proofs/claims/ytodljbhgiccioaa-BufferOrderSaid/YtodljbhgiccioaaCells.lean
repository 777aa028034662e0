/- turnstilelaw01 over lists of api.Cell: SameCells, TwinCells. -/
import Derived.Test.YtodljbhgiccioaaMake
import Derived.ProofKit
namespace Go.Proofs.Ytodljbhgiccioaa
open Go.RowKit

set_option maxHeartbeats 1000000 in
theorem sameCells_true {w : World} {ao bo : Option Addr} {ca cb : Nat} {l : List (Int × Int)} (ha : RdT encCell w 2 (.slice ao l.length ca) l) (hb : RdT encCell w 2 (.slice bo l.length cb) l) (hm : l.length ≤ 9223372036854775807) :
    Calls Try.prog 10 #[.slice ao l.length ca, .slice bo l.length cb] w fun e w' => e = .returned (.bool true) ∧ Below w.heap.size w w' := by
  have HA := hidI ha
  have HB := hidI hb
  clear ha hb
  go_enter Try.func10, Try.ntmps10
  go_wp2
  go_loopw [13] (fun i wr => ∃ k n : Nat, k ≤ l.length ∧ i = .int .i64 k ∧ wr = w.drewN n) (fun i _ => l.length - (intOf i).toNat)
  case atStart => exact ⟨0, 0, Nat.zero_le _, rfl, rfl⟩
  case round =>
    obtain ⟨k, n, hk, rfl, rfl⟩ := hrel
    by_cases hlt : k < l.length
    · obtain ⟨x, hx⟩ := some_at hlt
      obtain ⟨b1, o1, rfl, hs1, hc1⟩ := HA.out.at encCell_len hx
      obtain ⟨b2, o2, rfl, hs2, hc2⟩ := HB.out.at encCell_len hx
      have x0 := hc1 0 _ rfl
      have x1 := hc1 1 _ rfl
      have y0 := hc2 0 _ rfl
      have y1 := hc2 1 _ rfl
      simp only [Nat.add_zero] at x0 y0
      clear hc1 hc2 hx hs1 hs2
      go_wp2_with fail
      go_quiet (fail)
      go_wp2
      exact ⟨⟨k + 1, _, by omega, by go_num, rfl⟩, by simp [intOf]; omega⟩
    · obtain rfl : k = l.length := by omega
      go_wp2
      go_ret
      exact ⟨rfl, below_drewN (Below.refl _ _) n⟩

theorem sameCells_eq {w : World} {ao bo : Option Addr} {n m ca cb : Nat} {l : List (Int × Int)} (ha : Rd w 2 (.slice ao n ca) n (l.flatMap encCell)) (hb : Rd w 2 (.slice bo m cb) m (l.flatMap encCell)) (hn : n = l.length) (hm : m = l.length) (hl : l.length ≤ 9223372036854775807) :
    Calls Try.prog 10 #[.slice ao n ca, .slice bo m cb] w fun e w' => e = .returned (.bool true) ∧ Below w.heap.size w w' := by
  subst hn; subst hm
  exact sameCells_true ha hb hl

/-- a mark -/
def markC (i : Int) : Int × Int := (-1000 - i, 0)

set_option maxHeartbeats 400000 in
theorem markCell_any (z : Int) (h0 : 0 ≤ z) (h1 : z ≤ 9223372036854770000) (w : World) :
    Calls Try.prog 16 #[.int .i64 z] w fun e w' => e = .returned (.agg #[.int .i64 (markC z).1, .int .i64 (markC z).2]) ∧ Below w.heap.size w w' := by
  go_enter Try.func16, Try.ntmps16
  go_wp2
  exact bodyPost_ret (v := .agg #[.int .i64 (-1000 - z), .int .i64 0]) (by simp [results, Try.results16, go_sem]) rfl ⟨rfl, (Below.refl _ _).alloc (Nat.le_refl _) _⟩

/-- a copy with two marks behind it -/
def TwinC (w : World) (v : Value) (l : List (Int × Int)) : Prop :=
  ∃ g, v = .slice (some ⟨g, 0, none⟩) l.length (l.length + 2) ∧ w.heap[g]? = some (.cells ((l ++ [markC l.length, markC (l.length + 1)]).flatMap encCell).toArray 28 (0, 0))

/-- TwinCells' post -/
def TwinPost (l : List (Int × Int)) (w : World) (e : Ending) (w' : World) : Prop :=
  ∃ g, w.heap.size ≤ g ∧ e = .returned (.slice (some ⟨g, 0, none⟩) l.length (l.length + 2)) ∧ w'.heap[g]? = some (.cells ((l ++ [markC l.length, markC (l.length + 1)]).flatMap encCell).toArray 28 (0, 0)) ∧ Below w.heap.size w w'

theorem cellInfo : (Try.prog.info? 28).map (fun i => (i.zero, i.size, i.bytes)) = some (some (.agg #[.int .i64 0, .int .i64 0]), 2, 16) := by kernel_rfl

theorem cellSize : (Try.prog.info? 28).map (·.size) = some 2 := by kernel_rfl

theorem one_encCell {l : List (Int × Int)} : ∀ v ∈ l.flatMap encCell, v.oneCell' = true := by
  intro v hv
  obtain ⟨x, _, hx⟩ := List.mem_flatMap.1 hv
  simp [encCell] at hx
  rcases hx with rfl | rfl <;> rfl

/-- the copy while its marks are laid -/
def tw (l : List (Int × Int)) : Nat → List Value
  | 0 => l.flatMap encCell ++ [.int .i64 0, .int .i64 0, .int .i64 0, .int .i64 0]
  | 1 => l.flatMap encCell ++ [.int .i64 (markC l.length).1, .int .i64 (markC l.length).2, .int .i64 0, .int .i64 0]
  | _ => l.flatMap encCell ++ [.int .i64 (markC l.length).1, .int .i64 (markC l.length).2, .int .i64 (markC (l.length + 1)).1, .int .i64 (markC (l.length + 1)).2]
theorem tw_two (l : List (Int × Int)) : tw l 2 = (l ++ [markC l.length, markC (l.length + 1)]).flatMap encCell := by simp [tw, encCell]
theorem tw_split (l : List (Int × Int)) (k : Nat) (hk : k < 2) : ∃ A R, A.length = (l.length + k) * 2 ∧ tw l k = A ++ .int .i64 0 :: .int .i64 0 :: R ∧
    tw l (k + 1) = A ++ .int .i64 (markC ((l.length + k : Nat) : Int)).1 :: .int .i64 (markC ((l.length + k : Nat) : Int)).2 :: R := by
  have hl := flat_len encCell_len l
  match k, hk with
  | 0, _ => exact ⟨l.flatMap encCell, [.int .i64 0, .int .i64 0], by simpa using hl, rfl, rfl⟩
  | 1, _ => exact ⟨l.flatMap encCell ++ [.int .i64 (markC l.length).1, .int .i64 (markC l.length).2], [], by simp [hl]; omega, by simp [tw], by simp [tw]⟩

set_option maxHeartbeats 1000000 in
theorem twinCells_any {w : World} {ao : Option Addr} {ca : Nat} {l : List (Int × Int)} (ha : RdT encCell w 2 (.slice ao l.length ca) l) (hm : l.length ≤ 8796093022207) :
    Calls Try.prog 11 #[.slice ao l.length ca] w (TwinPost l w) := by
  obtain ⟨i0, hi, hz0, hz1, hz2⟩ := info_parts cellInfo
  have HA := hidI ha
  clear ha
  go_enter Try.func11, Try.ntmps11
  go_wp2_with (at_make; refine wpList_make_s _ rfl _ _ 22 rfl 28 i0 _ 2 [.int .i64 0, .int .i64 0] Try.underlying22 hi hz0 hz1 rfl rfl (by decide) _ _ _ _ l.length (l.length + 2) rfl rfl rfl ?b0 ?b1 ?b2 ?b3 ?_)
  case b0 => omega
  case b1 => omega
  case b2 => rw [hz2]; omega
  case b3 => unfold maxLen; omega
  intro w1 hg1 hs1 hb1
  have HG1 := hidI hg1
  clear hg1
  have hrd : Rd w1 2 (.slice ao l.length ca) l.length (l.flatMap encCell) := HA.out.below hb1
  have HRD := hidI hrd
  clear hrd
  go_wp2_with (refine wpList_copy_s (o := ⟨some 14, _, _, _, _, _⟩) rfl _ _ 22 22 rfl 28 2 Try.underlying22 cellSize w.heap.size l.length (l.length + 2) _ (l.flatMap encCell) rfl rfl HRD.out _ _ HG1.out ?d1 one_encCell ?_)
  case d1 => rw [flat_len encCell_len]; simp; omega
  intro w2 hg2 hs2 hc2
  have hg2' : w2.heap[w.heap.size]? = some (.cells (l.flatMap encCell ++ [Value.int .i64 0, .int .i64 0, .int .i64 0, .int .i64 0]).toArray 28 (0, 0)) := by
    rw [hg2]
    rw [← List.replicate_append_replicate, List.flatten_append, List.drop_append_of_le_length (by simp), List.drop_of_length_le (by simp)]
    rfl
  have HG2 := hidI hg2'
  have HB2 := hidI (hc2.below hb1 (by omega) (by rintro k rfl; exact Nat.le_refl _))
  clear hg2 hg2' HG1 HRD hc2
  have HL := hidI (flat_len encCell_len l)
  go_wp2_with fail
  go_loopw [5] (fun i wr => ∃ k : Nat, k ≤ 2 ∧ i = .int .i64 ((l.length + k : Nat) : Int) ∧ wr.heap[w.heap.size]? = some (.cells (tw l k).toArray 28 (0, 0)) ∧ Below w.heap.size w wr ∧ w.heap.size < wr.heap.size) (fun i _ => l.length + 2 - (intOf i).toNat)
  case atStart => exact ⟨0, by omega, rfl, HG2.out, HB2.out, by omega⟩
  case round =>
    obtain ⟨k, hk, rfl, hblk, hbr, hsr⟩ := hrel
    by_cases h0 : k < 2
    · obtain ⟨A, R, hA, t1, t2⟩ := tw_split l k h0
      rw [t1] at hblk
      have d0 : wr.cell? ⟨w.heap.size, (l.length + k) * 2, none⟩ = some (.int .i64 0) := cell_of_block hblk (by simp [← hA])
      have d1 : wr.cell? ⟨w.heap.size, (l.length + k) * 2 + 1, none⟩ = some (.int .i64 0) := cell_of_block hblk (by simp [← hA])
      have f0 := free_of_block (o := (l.length + k) * 2) hblk
      have f1 := free_of_block (o := (l.length + k) * 2 + 1) hblk
      have HK := hidI hblk
      have HA' := hidI hA
      have HT := hidI t2
      clear hblk hA t1 t2
      go_wp2_with fail
      refine (markCell_any _ (by omega) (by omega) _).mono ?_
      rintro e w3 ⟨rfl, hb3⟩
      have g3 := blk hb3 HK.out
      have d0 : w3.cell? ⟨w.heap.size, (l.length + k) * 2, none⟩ = some (.int .i64 0) := cell_of_block g3 (by simp [← HA'.out])
      have d1 : w3.cell? ⟨w.heap.size, (l.length + k) * 2 + 1, none⟩ = some (.int .i64 0) := cell_of_block g3 (by simp [← HA'.out])
      have f0 := free_of_block (o := (l.length + k) * 2) g3
      have f1 := free_of_block (o := (l.length + k) * 2 + 1) g3
      have HG3 := hidI g3
      clear g3
      go_wp2_with fail
      refine ⟨⟨k + 1, by omega, by go_num, ?_, ((hbr.trans (hb3.mono hbr.size)).setCell (Nat.le_refl _) _).setCell (Nat.le_refl _) _, by have := hb3.size; simp [World.setCell]; omega⟩, by simp [intOf]; omega⟩
      rw [HT.out, ← set2 _ (.int .i64 0) (.int .i64 0) _ _ _ _ HA'.out]
      exact block_setCell _ (block_setCell _ HG3.out)
    · obtain rfl : k = 2 := by omega
      have HK := hidI hblk
      clear hblk
      go_wp2
      go_ret
      exact ⟨w.heap.size, Nat.le_refl _, rfl, by rw [← tw_two]; exact HK.out, hbr⟩

/-- a cell that came in -/
theorem cell_elem {H : Type} {enc : TypeId × Value → H} {w : World} {held : Bool} (fuel : Nat) (cs : List Value) (x : DataW H × List MemPlace) (h : DataW.trod enc Try.prog w 0 (fun _ => true) held fuel 28 cs = some x) : ∃ a, cs = encCell a ∧ True := by
  obtain ⟨y0, y1, n, hx, hl, h0, h1⟩ := Go.ChangeShapes.trod_struct2 Try.underlying28 h
  obtain ⟨a, ha, -, -⟩ := DataW.trod_int Try.underlying3 h0
  obtain ⟨b, hb, -, -⟩ := DataW.trod_int Try.underlying2 h1
  rw [show Try.prog.cellsOf 28 = 2 from by kernel_rfl] at hl
  rw [show Try.prog.cellsOf 3 = 1 from by kernel_rfl] at ha
  rw [show Try.prog.cellsOf 2 = 1 from by kernel_rfl] at hb
  match cs, hl with
  | [c0, c1], _ =>
    simp at ha hb
    exact ⟨(a, b), by simp [encCell, ha, hb], trivial⟩

end Go.Proofs.Ytodljbhgiccioaa

/- turnstilelaw01.TwinCells, LeftCells. (Written by mktwin.py.) -/
import Derived.Test.YthmmbldhbdnfpaaGreatDoorMBase
import Derived.Test.YthmmbldhbdnfpaaGreatDoorMBook
namespace Go.Proofs.YthmmbldhbdnfpaaGreatDoor
open Go.RowKit
set_option linter.unusedVariables false
set_option linter.unusedSimpArgs false

def tmarkCell (z : Int) : (Int × Int) := (-1000 - z, 0)
theorem tmarkCell_enc (z : Int) : encCell (tmarkCell z) = [Value.int .i64 (-1000 - z), Value.int .i64 0] := rfl
/-- TwinCells' post: a copy with two marks behind it -/
def TwinCellPost (l : List (Int × Int)) (w : World) (e : Ending) (w' : World) : Prop :=
  ∃ g, w.heap.size ≤ g ∧ e = .returned (.slice (some ⟨g, 0, none⟩) l.length (l.length + 2)) ∧ w'.heap[g]? = some (.cells ((l ++ [tmarkCell l.length, tmarkCell (l.length + 1)]).flatMap encCell).toArray 105 (0, 0)) ∧ Below w.heap.size w w'

theorem twInfoCell : (Tryz.prog.info? 105).map (fun i => (i.zero, i.size, i.bytes)) = some (some (.agg #[Value.int .i64 0, Value.int .i64 0]), 2, 16) := by kernel_rfl
theorem twSizeCell : (Tryz.prog.info? 105).map (·.size) = some 2 := by kernel_rfl
theorem one_encCellL {l : List (Int × Int)} : ∀ v ∈ l.flatMap encCell, v.oneCell' = true := by
  intro v hv
  obtain ⟨x, _, hx⟩ := List.mem_flatMap.1 hv
  simp [encCell] at hx
  rcases hx with rfl | rfl <;> rfl
theorem set2Cell (A R : List Value) (a0 a1 x0 x1 : Value) (i : Nat) (hi : A.length = i) : (((A ++ a0 :: a1 :: R).toArray.setIfInBounds (i) x0).setIfInBounds (i + 1) x1) = (A ++ x0 :: x1 :: R).toArray := by
  subst hi
  simp [List.setIfInBounds_toArray, List.set_append]

/-- the copy while its marks are laid -/
def twCell (l : List (Int × Int)) : Nat → List Value
  | 0 => l.flatMap encCell ++ [Value.int .i64 0, Value.int .i64 0, Value.int .i64 0, Value.int .i64 0]
  | 1 => l.flatMap encCell ++ [Value.int .i64 (-1000 - (l.length : Int)), Value.int .i64 0, Value.int .i64 0, Value.int .i64 0]
  | _ => l.flatMap encCell ++ [Value.int .i64 (-1000 - (l.length : Int)), Value.int .i64 0, Value.int .i64 (-1000 - ((l.length : Int) + 1)), Value.int .i64 0]
theorem twCell_two (l : List (Int × Int)) : twCell l 2 = (l ++ [tmarkCell l.length, tmarkCell (l.length + 1)]).flatMap encCell := by simp [twCell, encCell, tmarkCell]
theorem twCell_split (l : List (Int × Int)) (k : Nat) (hk : k < 2) : ∃ A R, A.length = (l.length + k) * 2 ∧ twCell l k = A ++ Value.int .i64 0 :: Value.int .i64 0 :: R ∧ twCell l (k + 1) = A ++ Value.int .i64 (-1000 - ((l.length + k : Nat) : Int)) :: Value.int .i64 0 :: R := by
  have hl := flat_len encCell_len l
  match k, hk with
  | 0, _ => exact ⟨l.flatMap encCell, [Value.int .i64 0, Value.int .i64 0], by simpa using hl, rfl, rfl⟩
  | 1, _ => exact ⟨l.flatMap encCell ++ [Value.int .i64 (-1000 - (l.length : Int)), Value.int .i64 0], [], by simp [hl]; omega, by simp [twCell], by simp [twCell]⟩

set_option maxRecDepth 100000 in
set_option maxHeartbeats 2000000 in
theorem twinCells_any {w : World} {ao : Option Addr} {ca : Nat} {l : List (Int × Int)} (ha : RdT encCell w 2 (.slice ao l.length ca) l) (hm : l.length ≤ 262144) :
    Calls Tryz.prog 31 #[.slice ao l.length ca] w (TwinCellPost l w) := by
  obtain ⟨i0, hi, hz0, hz1, hz2⟩ := info_parts twInfoCell
  have HA := hidI ha
  clear ha
  go_enter Tryz.func31, Tryz.ntmps31
  go_wp2_with (at_make; refine wpList_make_s _ rfl _ _ 23 rfl 105 i0 _ 2 [Value.int .i64 0, Value.int .i64 0] Tryz.underlying23 hi hz0 hz1 rfl rfl (by decide) _ _ _ _ l.length (l.length + 2) rfl rfl rfl ?b0 ?b1 ?b2 ?b3 ?_)
  case b0 => omega
  case b1 => omega
  case b2 => rw [hz2]; omega
  case b3 => unfold maxLen; omega
  intro w1 hg1 hs1 hb1
  have HG1 := hidI hg1
  clear hg1
  have hrd : Rd w1 2 (.slice ao l.length ca) l.length (l.flatMap encCell) := HA.out.below hb1
  have HRD := hidI hrd
  clear hrd
  go_wp2_with (refine wpList_copy_s (o := ⟨some 14, _, _, _, _, _⟩) rfl _ _ 23 23 rfl 105 2 Tryz.underlying23 twSizeCell w.heap.size l.length (l.length + 2) _ (l.flatMap encCell) rfl rfl HRD.out _ _ HG1.out ?d1 one_encCellL ?_)
  case d1 => rw [flat_len encCell_len]; first | (simp; done) | (simp; omega)
  intro w2 hg2 hs2 hc2
  have hg2' : w2.heap[w.heap.size]? = some (.cells (l.flatMap encCell ++ [Value.int .i64 0, Value.int .i64 0, Value.int .i64 0, Value.int .i64 0]).toArray 105 (0, 0)) := by
    rw [hg2]
    rw [← List.replicate_append_replicate, List.flatten_append, List.drop_append_of_le_length (by simp), List.drop_of_length_le (by simp)]
    rfl
  have HG2 := hidI hg2'
  have HB2 := hidI (hc2.below hb1 (by omega) (by rintro k rfl; exact Nat.le_refl _))
  clear hg2 hg2' HG1 HRD hc2
  go_wp2_with fail
  go_loopw [5] (fun i wr => ∃ k : Nat, k ≤ 2 ∧ i = .int .i64 ((l.length + k : Nat) : Int) ∧ wr.heap[w.heap.size]? = some (.cells (twCell l k).toArray 105 (0, 0)) ∧ Below w.heap.size w wr ∧ w.heap.size < wr.heap.size) (fun i _ => l.length + 2 - (intOf i).toNat)
  case atStart => exact ⟨0, by omega, rfl, HG2.out, HB2.out, by omega⟩
  case round =>
    obtain ⟨k, hk, rfl, hblk, hbr, hsr⟩ := hrel
    by_cases h0 : k < 2
    · obtain ⟨A, R, hA, t1, t2⟩ := twCell_split l k h0
      rw [t1] at hblk
      have HA' := hidI hA
      have HH := hblk
      have d0 : wr.cell? ⟨w.heap.size, (l.length + k) * 2, none⟩ = some (Value.int .i64 0) := cell_of_block HH (by have hA9 := HA'.out; rw [List.getElem?_toArray, List.getElem?_append_right (by omega)]; simp [hA9])
      have f0 := free_of_block (o := (l.length + k) * 2) HH
      have d1 : wr.cell? ⟨w.heap.size, (l.length + k) * 2 + 1, none⟩ = some (Value.int .i64 0) := cell_of_block HH (by have hA9 := HA'.out; rw [List.getElem?_toArray, List.getElem?_append_right (by omega)]; simp [hA9])
      have f1 := free_of_block (o := (l.length + k) * 2 + 1) HH
      have HK := hidI hblk
      have HT := hidI t2
      clear hblk hA t1 t2 HH
      go_wp2_with fail
      refine (markCell_lit _ ((l.length + k : Nat) : Int) ⟨by omega, by omega⟩).mono ?_
      rintro e w3 ⟨rfl, hb3⟩
      have HH := blk hb3 HK.out
      clear d0 f0 d1 f1
      have d0 : w3.cell? ⟨w.heap.size, (l.length + k) * 2, none⟩ = some (Value.int .i64 0) := cell_of_block HH (by have hA9 := HA'.out; rw [List.getElem?_toArray, List.getElem?_append_right (by omega)]; simp [hA9])
      have f0 := free_of_block (o := (l.length + k) * 2) HH
      have d1 : w3.cell? ⟨w.heap.size, (l.length + k) * 2 + 1, none⟩ = some (Value.int .i64 0) := cell_of_block HH (by have hA9 := HA'.out; rw [List.getElem?_toArray, List.getElem?_append_right (by omega)]; simp [hA9])
      have f1 := free_of_block (o := (l.length + k) * 2 + 1) HH
      have HG3 := hidI HH
      clear HH
      go_wp2_with fail
      refine ⟨⟨k + 1, by omega, by go_num, ?_, (((hbr.trans (hb3.mono hbr.size)).setCell (Nat.le_refl _) _).setCell (Nat.le_refl _) _), by have := hb3.size; simp [World.setCell]; omega⟩, by simp [intOf]; omega⟩
      rw [HT.out, ← set2Cell A R (Value.int .i64 0) (Value.int .i64 0) _ _ _ HA'.out]
      exact block_setCell _ (block_setCell _ (HG3.out))
    · obtain rfl : k = 2 := by omega
      have HK := hidI hblk
      clear hblk
      go_wp2
      go_ret
      exact ⟨w.heap.size, Nat.le_refl _, rfl, by rw [← twCell_two]; exact HK.out, hbr⟩

theorem headCells {w : World} {g : Nat} {t : TypeId} {l m : List (Int × Int)} {c : Nat} (h : w.heap[g]? = some (.cells ((l ++ m).flatMap encCell).toArray t (0, 0))) (hc : l.length ≤ c) : RdT encCell w 2 (.slice (some ⟨g, 0, none⟩) l.length c) l := by
  refine ⟨flat_len encCell_len l, _, _, rfl, hc, fun _ => ⟨g, 0, rfl, lt_of_block h, fun j u hj => ?_⟩⟩
  rw [Nat.zero_add]
  refine cell_of_block h ?_
  have hlt := (List.getElem?_eq_some_iff.1 hj).1
  simp only [List.getElem?_toArray, List.flatMap_append]
  rw [List.getElem?_append_left hlt]
  exact hj

set_option maxRecDepth 100000 in
set_option maxHeartbeats 2000000 in
theorem leftCells_true {w : World} {g : Nat} {bo : Option Addr} {cb : Nat} {l : List (Int × Int)} (hg : w.heap[g]? = some (.cells ((l ++ [tmarkCell l.length, tmarkCell (l.length + 1)]).flatMap encCell).toArray 105 (0, 0)))
    (hb : RdT encCell w 2 (.slice bo l.length cb) l) (hm : l.length ≤ 262144) :
    Calls Tryz.prog 39 #[.slice (some ⟨g, 0, none⟩) l.length (l.length + 2), .slice bo l.length cb] w fun e w' => e = .returned (.bool true) ∧ Below w.heap.size w w' := by
  have HG := hidI hg
  have HB := hidI hb
  clear hg hb
  go_enter Tryz.func39, Tryz.ntmps39
  go_wp2_with fail
  go_loopw [6] (fun i wr => ∃ k : Nat, k ≤ 2 ∧ i = .int .i64 ((l.length + k : Nat) : Int) ∧ Below w.heap.size w wr) (fun i _ => l.length + 2 - (intOf i).toNat)
  case atStart => exact ⟨0, by omega, rfl, Below.refl _ _⟩
  case round =>
    obtain ⟨k, hk, rfl, hbr⟩ := hrel
    have HBR := hidI hbr
    clear hbr
    by_cases h0 : k < 2
    · have hx : (l ++ [tmarkCell l.length, tmarkCell (l.length + 1)])[l.length + k]? = some (tmarkCell ((l.length + k : Nat) : Int)) := by
        rcases (by omega : k = 0 ∨ k = 1) with rfl | rfl
        · simp
        · simp
      have d0 : wr.cell? ⟨g, (l.length + k) * 2, none⟩ = some (Value.int .i64 (-1000 - ((l.length + k : Nat) : Int))) := cell_of_block (blk HBR.out HG.out) (by have := flat_at encCell_len _ hx 0 _ rfl; simpa [tmarkCell] using this)
      have d1 : wr.cell? ⟨g, (l.length + k) * 2 + 1, none⟩ = some (Value.int .i64 0) := cell_of_block (blk HBR.out HG.out) (by have := flat_at encCell_len _ hx 1 _ rfl; simpa [tmarkCell] using this)
      clear hx
      go_wp2_with fail
      refine (isCell_any _ ((l.length + k : Nat) : Int) ⟨by omega, by omega⟩).mono ?_
      rintro e w3 ⟨rfl, hb3⟩
      have HB3 := hidI (HBR.out.trans (hb3.mono HBR.out.size))
      clear hb3
      go_wp2_with fail
      exact ⟨⟨k + 1, by omega, by go_num, HB3.out⟩, by simp [intOf]; omega⟩
    · obtain rfl : k = 2 := by omega
      go_wp2_with fail
      refine (sameCells_true (l := l) (headCells (blk HBR.out HG.out) (by omega)) (Rd.below HB.out HBR.out) (by omega)).mono ?_
      rintro e w3 ⟨rfl, hb3⟩
      have HB3 := hidI (HBR.out.trans (hb3.mono HBR.out.size))
      clear hb3
      go_wp2_with fail
      go_ret
      exact ⟨rfl, HB3.out⟩

end Go.Proofs.YthmmbldhbdnfpaaGreatDoor

/- turnstilelaw01 over lists of instructions: SameOps, TwinOps, LeftOps. (Out of isa/XIsaF.) -/
import Derived.Test.YthmmbldhbdnfpaaGreatDoorTsoI
import Derived.Test.YthmmbldhbdnfpaaGreatDoorMBase
import Derived.ProofKit
namespace Go.Proofs.YthmmbldhbdnfpaaGreatDoor
open Go.RowKit
set_option linter.unusedVariables false
set_option linter.unusedSimpArgs false

set_option maxHeartbeats 1000000 in
theorem sameOps_true {w : World} {ao bo : Option Addr} {ca cb : Nat} {l : List OpD} (ha : RdT encOp w 6 (.slice ao l.length ca) l) (hb : RdT encOp w 6 (.slice bo l.length cb) l) (hm : l.length ≤ 9223372036854775807) :
    Calls Tryz.prog 251 #[.slice ao l.length ca, .slice bo l.length cb] w fun e w' => e = .returned (.bool true) ∧ Below w.heap.size w w' := by
  have HA := hidI ha
  have HB := hidI hb
  clear ha hb
  go_enter Tryz.func251, Tryz.ntmps251
  go_wp2
  go_loopw [13] (fun i wr => ∃ k n : Nat, k ≤ l.length ∧ i = .int .i64 k ∧ wr = w.drewN n) (fun i _ => l.length - (intOf i).toNat)
  case atStart => exact ⟨0, 0, Nat.zero_le _, rfl, rfl⟩
  case round =>
    obtain ⟨k, n, hk, rfl, rfl⟩ := hrel
    by_cases hlt : k < l.length
    · obtain ⟨x, hx⟩ := some_at hlt
      obtain ⟨b1, o1, rfl, hs1, hc1⟩ := HA.out.at encOp_len hx
      obtain ⟨b2, o2, rfl, hs2, hc2⟩ := HB.out.at encOp_len hx
      have x0 := hc1 0 _ rfl
      have y0 := hc2 0 _ rfl
      have x1 := hc1 1 _ rfl
      have y1 := hc2 1 _ rfl
      have x2 := hc1 2 _ rfl
      have y2 := hc2 2 _ rfl
      have x3 := hc1 3 _ rfl
      have y3 := hc2 3 _ rfl
      have x4 := hc1 4 _ rfl
      have y4 := hc2 4 _ rfl
      have x5 := hc1 5 _ rfl
      have y5 := hc2 5 _ rfl
      simp only [Nat.add_zero] at x0 y0
      clear hc1 hc2 hx hs1 hs2
      go_wp2_with fail
      go_quiet (fail)
      go_wp2
      exact ⟨⟨k + 1, _, by omega, by go_num, rfl⟩, by simp [intOf]; omega⟩
    · obtain rfl : k = l.length := by omega
      go_wp2
      go_ret
      exact ⟨rfl, below_drewN (Below.refl _ _) n⟩

/-- a mark -/
def markO (i : Int) : OpD := ⟨99, 0, 0, 0, 0, -1000 - i⟩
def zeroO : OpD := ⟨0, 0, 0, 0, 0, 0⟩

set_option maxHeartbeats 400000 in
theorem markOp_any (z : Int) (h0 : 0 ≤ z) (h1 : z ≤ 9223372036854770000) (w : World) :
    Calls Tryz.prog 207 #[.int .i64 z] w fun e w' => e = .returned (.agg #[.int .u8 99, .int .u8 0, .int .u8 0, .int .u8 0, .int .u8 0, .int .i64 (-1000 - z)]) ∧ Below w.heap.size w w' := by
  go_enter Tryz.func207, Tryz.ntmps207
  go_wp2
  exact bodyPost_ret (v := .agg #[.int .u8 99, .int .u8 0, .int .u8 0, .int .u8 0, .int .u8 0, .int .i64 (-1000 - z)]) (by simp [results, Tryz.results207, go_sem]) rfl ⟨rfl, (Below.refl _ _).alloc (Nat.le_refl _) _⟩

/-- TwinOps' post: a copy with two marks behind it -/
def TwinOPost (l : List OpD) (w : World) (e : Ending) (w' : World) : Prop :=
  ∃ g, w.heap.size ≤ g ∧ e = .returned (.slice (some ⟨g, 0, none⟩) l.length (l.length + 2)) ∧ w'.heap[g]? = some (.cells ((l ++ [markO l.length, markO (l.length + 1)]).flatMap encOp).toArray 44 (0, 0)) ∧ Below w.heap.size w w'

theorem opInfo : (Tryz.prog.info? 44).map (fun i => (i.zero, i.size, i.bytes)) = some (some (.agg #[.int .u8 0, .int .u8 0, .int .u8 0, .int .u8 0, .int .u8 0, .int .i64 0]), 6, 16) := by kernel_rfl
theorem opSize : (Tryz.prog.info? 44).map (·.size) = some 6 := by kernel_rfl
theorem one_encOp {l : List OpD} : ∀ v ∈ l.flatMap encOp, v.oneCell' = true := by
  intro v hv
  obtain ⟨x, _, hx⟩ := List.mem_flatMap.1 hv
  simp [encOp] at hx
  rcases hx with rfl | rfl | rfl | rfl | rfl | rfl <;> rfl

theorem set1O (A R : List Value) (z x : Value) (i : Nat) (h : A.length = i) : (A ++ z :: R).toArray.setIfInBounds i x = (A ++ x :: R).toArray := by
  subst h
  simp [List.set_append]
theorem set6 (A R : List Value) (z0 z1 z2 z3 z4 z5 x0 x1 x2 x3 x4 x5 : Value) (i : Nat) (h : A.length = i) :
    ((((((A ++ z0 :: z1 :: z2 :: z3 :: z4 :: z5 :: R).toArray.setIfInBounds i x0).setIfInBounds (i + 1) x1).setIfInBounds (i + 2) x2).setIfInBounds (i + 3) x3).setIfInBounds (i + 4) x4).setIfInBounds (i + 5) x5 = (A ++ x0 :: x1 :: x2 :: x3 :: x4 :: x5 :: R).toArray := by
  rw [set1O A _ _ _ i h]
  rw [show A ++ x0 :: z1 :: z2 :: z3 :: z4 :: z5 :: R = (A ++ [x0]) ++ z1 :: z2 :: z3 :: z4 :: z5 :: R from by simp, set1O _ _ _ _ (i + 1) (by simp [h])]
  rw [show (A ++ [x0]) ++ x1 :: z2 :: z3 :: z4 :: z5 :: R = (A ++ [x0, x1]) ++ z2 :: z3 :: z4 :: z5 :: R from by simp, set1O _ _ _ _ (i + 2) (by simp [h])]
  rw [show (A ++ [x0, x1]) ++ x2 :: z3 :: z4 :: z5 :: R = (A ++ [x0, x1, x2]) ++ z3 :: z4 :: z5 :: R from by simp, set1O _ _ _ _ (i + 3) (by simp [h])]
  rw [show (A ++ [x0, x1, x2]) ++ x3 :: z4 :: z5 :: R = (A ++ [x0, x1, x2, x3]) ++ z4 :: z5 :: R from by simp, set1O _ _ _ _ (i + 4) (by simp [h])]
  rw [show (A ++ [x0, x1, x2, x3]) ++ x4 :: z5 :: R = (A ++ [x0, x1, x2, x3, x4]) ++ z5 :: R from by simp, set1O _ _ _ _ (i + 5) (by simp [h])]
  simp

/-- the copy while its marks are laid -/
def twO (l : List OpD) : Nat → List Value
  | 0 => (l ++ [zeroO, zeroO]).flatMap encOp
  | 1 => (l ++ [markO l.length, zeroO]).flatMap encOp
  | _ => (l ++ [markO l.length, markO (l.length + 1)]).flatMap encOp
theorem twO_split (l : List OpD) (k : Nat) (hk : k < 2) : ∃ A R, A.length = (l.length + k) * 6 ∧ twO l k = A ++ .int .u8 0 :: .int .u8 0 :: .int .u8 0 :: .int .u8 0 :: .int .u8 0 :: .int .i64 0 :: R ∧
    twO l (k + 1) = A ++ .int .u8 99 :: .int .u8 0 :: .int .u8 0 :: .int .u8 0 :: .int .u8 0 :: .int .i64 (-1000 - ((l.length + k : Nat) : Int)) :: R := by
  have hl := flat_len encOp_len l
  match k, hk with
  | 0, _ => exact ⟨l.flatMap encOp, encOp zeroO, by simpa using hl, by simp [twO, encOp, zeroO], by simp [twO, encOp, zeroO, markO]⟩
  | 1, _ => exact ⟨l.flatMap encOp ++ encOp (markO l.length), [], by rw [List.length_append, hl, encOp_len]; omega, by simp [twO, encOp, zeroO], by simp [twO, encOp, markO]⟩

set_option maxRecDepth 100000 in
set_option maxHeartbeats 2000000 in
theorem twinOps_any {w : World} {ao : Option Addr} {ca : Nat} {l : List OpD} (ha : RdT encOp w 6 (.slice ao l.length ca) l) (hm : l.length ≤ 8796093022207) :
    Calls Tryz.prog 165 #[.slice ao l.length ca] w (TwinOPost l w) := by
  obtain ⟨i0, hi, hz0, hz1, hz2⟩ := info_parts opInfo
  have HA := hidI ha
  clear ha
  go_enter Tryz.func165, Tryz.ntmps165
  go_wp2_with (at_make; refine wpList_make_s _ rfl _ _ 40 rfl 44 i0 _ 6 (encOp zeroO) Tryz.underlying40 hi hz0 hz1 rfl rfl (by decide) _ _ _ _ l.length (l.length + 2) rfl rfl rfl ?b0 ?b1 ?b2 ?b3 ?_)
  case b0 => omega
  case b1 => omega
  case b2 => rw [hz2]; omega
  case b3 => unfold maxLen; omega
  intro w1 hg1 hs1 hb1
  have HG1 := hidI hg1
  clear hg1
  have hrd : Rd w1 6 (.slice ao l.length ca) l.length (l.flatMap encOp) := HA.out.below hb1
  have HRD := hidI hrd
  clear hrd
  go_wp2_with (refine wpList_copy_s (o := ⟨some 14, _, _, _, _, _⟩) rfl _ _ 40 40 rfl 44 6 Tryz.underlying40 opSize w.heap.size l.length (l.length + 2) _ (l.flatMap encOp) rfl rfl HRD.out _ _ HG1.out ?d1 one_encOp ?_)
  case d1 => rw [flat_len encOp_len]; simp [encOp_len]; omega
  intro w2 hg2 hs2 hc2
  have hg2' : w2.heap[w.heap.size]? = some (.cells (twO l 0).toArray 44 (0, 0)) := by
    rw [hg2]
    rw [← List.replicate_append_replicate, List.flatten_append, List.drop_append_of_le_length (by simp [encOp_len]), List.drop_of_length_le (by simp [encOp_len])]
    simp [twO, List.flatMap_append]
  have HG2 := hidI hg2'
  have HB2 := hidI (hc2.below hb1 (by omega) (by rintro k rfl; exact Nat.le_refl _))
  clear hg2 hg2' HG1 HRD hc2
  have HL := hidI (flat_len encOp_len l)
  go_wp2_with fail
  go_loopw [5] (fun i wr => ∃ k : Nat, k ≤ 2 ∧ i = .int .i64 ((l.length + k : Nat) : Int) ∧ wr.heap[w.heap.size]? = some (.cells (twO l k).toArray 44 (0, 0)) ∧ Below w.heap.size w wr ∧ w.heap.size < wr.heap.size) (fun i _ => l.length + 2 - (intOf i).toNat)
  case atStart => exact ⟨0, by omega, rfl, HG2.out, HB2.out, by omega⟩
  case round =>
    obtain ⟨k, hk, rfl, hblk, hbr, hsr⟩ := hrel
    by_cases h0 : k < 2
    · obtain ⟨A, R, hA, t1, t2⟩ := twO_split l k h0
      rw [t1] at hblk
      have d0 : wr.cell? ⟨w.heap.size, (l.length + k) * 6, none⟩ = some (.int .u8 0) := cell_of_block hblk (by simp [← hA])
      have f0 := free_of_block (o := (l.length + k) * 6) hblk
      have d1 : wr.cell? ⟨w.heap.size, (l.length + k) * 6 + 1, none⟩ = some (.int .u8 0) := cell_of_block hblk (by simp [← hA])
      have f1 := free_of_block (o := (l.length + k) * 6 + 1) hblk
      have d2 : wr.cell? ⟨w.heap.size, (l.length + k) * 6 + 2, none⟩ = some (.int .u8 0) := cell_of_block hblk (by simp [← hA])
      have f2 := free_of_block (o := (l.length + k) * 6 + 2) hblk
      have d3 : wr.cell? ⟨w.heap.size, (l.length + k) * 6 + 3, none⟩ = some (.int .u8 0) := cell_of_block hblk (by simp [← hA])
      have f3 := free_of_block (o := (l.length + k) * 6 + 3) hblk
      have d4 : wr.cell? ⟨w.heap.size, (l.length + k) * 6 + 4, none⟩ = some (.int .u8 0) := cell_of_block hblk (by simp [← hA])
      have f4 := free_of_block (o := (l.length + k) * 6 + 4) hblk
      have d5 : wr.cell? ⟨w.heap.size, (l.length + k) * 6 + 5, none⟩ = some (.int .i64 0) := cell_of_block hblk (by simp [← hA])
      have f5 := free_of_block (o := (l.length + k) * 6 + 5) hblk
      have HK := hidI hblk
      have HA' := hidI hA
      have HT := hidI t2
      clear hblk hA t1 t2
      go_wp2_with fail
      refine (markOp_any _ (by omega) (by omega) _).mono ?_
      rintro e w3 ⟨rfl, hb3⟩
      have g3 := blk hb3 HK.out
      clear d0 d1 d2 d3 d4 d5 f0 f1 f2 f3 f4 f5
      have d0 : w3.cell? ⟨w.heap.size, (l.length + k) * 6, none⟩ = some (.int .u8 0) := cell_of_block g3 (by simp [← HA'.out])
      have f0 := free_of_block (o := (l.length + k) * 6) g3
      have d1 : w3.cell? ⟨w.heap.size, (l.length + k) * 6 + 1, none⟩ = some (.int .u8 0) := cell_of_block g3 (by simp [← HA'.out])
      have f1 := free_of_block (o := (l.length + k) * 6 + 1) g3
      have d2 : w3.cell? ⟨w.heap.size, (l.length + k) * 6 + 2, none⟩ = some (.int .u8 0) := cell_of_block g3 (by simp [← HA'.out])
      have f2 := free_of_block (o := (l.length + k) * 6 + 2) g3
      have d3 : w3.cell? ⟨w.heap.size, (l.length + k) * 6 + 3, none⟩ = some (.int .u8 0) := cell_of_block g3 (by simp [← HA'.out])
      have f3 := free_of_block (o := (l.length + k) * 6 + 3) g3
      have d4 : w3.cell? ⟨w.heap.size, (l.length + k) * 6 + 4, none⟩ = some (.int .u8 0) := cell_of_block g3 (by simp [← HA'.out])
      have f4 := free_of_block (o := (l.length + k) * 6 + 4) g3
      have d5 : w3.cell? ⟨w.heap.size, (l.length + k) * 6 + 5, none⟩ = some (.int .i64 0) := cell_of_block g3 (by simp [← HA'.out])
      have f5 := free_of_block (o := (l.length + k) * 6 + 5) g3
      have HG3 := hidI g3
      clear g3
      go_wp2_with fail
      refine ⟨⟨k + 1, by omega, by go_num, ?_, ((((((hbr.trans (hb3.mono hbr.size)).setCell (Nat.le_refl _) _).setCell (Nat.le_refl _) _).setCell (Nat.le_refl _) _).setCell (Nat.le_refl _) _).setCell (Nat.le_refl _) _).setCell (Nat.le_refl _) _, by have := hb3.size; simp [World.setCell]; omega⟩, by simp [intOf]; omega⟩
      rw [HT.out, ← set6 A R (.int .u8 0) (.int .u8 0) (.int .u8 0) (.int .u8 0) (.int .u8 0) (.int .i64 0) _ _ _ _ _ _ _ HA'.out]
      exact block_setCell _ (block_setCell _ (block_setCell _ (block_setCell _ (block_setCell _ (block_setCell _ HG3.out)))))
    · obtain rfl : k = 2 := by omega
      have HK := hidI hblk
      clear hblk
      go_wp2
      go_ret
      exact ⟨w.heap.size, Nat.le_refl _, rfl, HK.out, hbr⟩

set_option maxHeartbeats 1000000 in
theorem isOp_true (z : Int) (h0 : 0 ≤ z) (h1 : z ≤ 9223372036854770000) (w : World) :
    Calls Tryz.prog 230 #[.agg #[.int .u8 99, .int .u8 0, .int .u8 0, .int .u8 0, .int .u8 0, .int .i64 (-1000 - z)], .int .i64 z] w fun e w' => e = .returned (.bool true) ∧ Below w.heap.size w w' := by
  go_enter Tryz.func230, Tryz.ntmps230
  go_wp2_with fail
  have x0 : ∀ t, (ext (w.alloc (.cells #[.int .u8 99, .int .u8 0, .int .u8 0, .int .u8 0, .int .u8 0, .int .i64 (-1000 - z)] 44)) t).cell? ⟨w.heap.size, 0, none⟩ = some (.int .u8 99) := fun t => cell_of_block (ext_block (block_new _ _) t) rfl
  have x1 : ∀ t, (ext (w.alloc (.cells #[.int .u8 99, .int .u8 0, .int .u8 0, .int .u8 0, .int .u8 0, .int .i64 (-1000 - z)] 44)) t).cell? ⟨w.heap.size, 1, none⟩ = some (.int .u8 0) := fun t => cell_of_block (ext_block (block_new _ _) t) rfl
  have x2 : ∀ t, (ext (w.alloc (.cells #[.int .u8 99, .int .u8 0, .int .u8 0, .int .u8 0, .int .u8 0, .int .i64 (-1000 - z)] 44)) t).cell? ⟨w.heap.size, 2, none⟩ = some (.int .u8 0) := fun t => cell_of_block (ext_block (block_new _ _) t) rfl
  have x3 : ∀ t, (ext (w.alloc (.cells #[.int .u8 99, .int .u8 0, .int .u8 0, .int .u8 0, .int .u8 0, .int .i64 (-1000 - z)] 44)) t).cell? ⟨w.heap.size, 3, none⟩ = some (.int .u8 0) := fun t => cell_of_block (ext_block (block_new _ _) t) rfl
  have x4 : ∀ t, (ext (w.alloc (.cells #[.int .u8 99, .int .u8 0, .int .u8 0, .int .u8 0, .int .u8 0, .int .i64 (-1000 - z)] 44)) t).cell? ⟨w.heap.size, 4, none⟩ = some (.int .u8 0) := fun t => cell_of_block (ext_block (block_new _ _) t) rfl
  have x5 : ∀ t, (ext (w.alloc (.cells #[.int .u8 99, .int .u8 0, .int .u8 0, .int .u8 0, .int .u8 0, .int .i64 (-1000 - z)] 44)) t).cell? ⟨w.heap.size, 5, none⟩ = some (.int .i64 (-1000 - z)) := fun t => cell_of_block (ext_block (block_new _ _) t) rfl
  refine wp_region_grow (by kernel_rfl) (by kernel_rfl) ?_
  repeat (go_big_quiet_step ((first
    | (go_at_call 207; exact grow_of (markOp_any z h0 h1 _)))))
  refine wpQuiet_nil ?_
  intro w' hb0
  have hb := hidI hb0
  clear hb0
  go_wp2_with fail
  go_ret
  exact ⟨rfl, bnextA (Below.refl _ _) hb.out⟩

/-- a list that lies at a block's head reads as it -/
theorem head_ops {w : World} {g : Nat} {t : TypeId} {l m : List OpD} {c : Nat} (h : w.heap[g]? = some (.cells ((l ++ m).flatMap encOp).toArray t (0, 0))) (hc : l.length ≤ c) : RdT encOp w 6 (.slice (some ⟨g, 0, none⟩) l.length c) l := by
  refine ⟨flat_len encOp_len l, _, _, rfl, hc, fun _ => ⟨g, 0, rfl, lt_of_block h, fun j u hj => ?_⟩⟩
  rw [Nat.zero_add]
  refine cell_of_block h ?_
  have hlt := (List.getElem?_eq_some_iff.1 hj).1
  simp only [List.getElem?_toArray, List.flatMap_append]
  rw [List.getElem?_append_left hlt]
  exact hj

theorem lit_ops2 {w wr : World} {g : Nat} {t : TypeId} {l m : List OpD} (hb : Below w.heap.size w wr) (h : w.heap[g]? = some (.cells ((l ++ m).flatMap encOp).toArray t (0, 0))) : RdT encOp wr 6 (.slice (some ⟨g, 0, none⟩) l.length (l.length + 2)) l :=
  head_ops (blk hb h) (by omega)

set_option maxRecDepth 100000 in
set_option maxHeartbeats 2000000 in
theorem leftOps_true {w : World} {g : Nat} {bo : Option Addr} {cb : Nat} {l : List OpD} (hg : w.heap[g]? = some (.cells ((l ++ [markO l.length, markO (l.length + 1)]).flatMap encOp).toArray 44 (0, 0)))
    (hb : RdT encOp w 6 (.slice bo l.length cb) l) (hm : l.length ≤ 8796093022207) :
    Calls Tryz.prog 171 #[.slice (some ⟨g, 0, none⟩) l.length (l.length + 2), .slice bo l.length cb] w fun e w' => e = .returned (.bool true) ∧ Below w.heap.size w w' := by
  have HG := hidI hg
  have HB := hidI hb
  clear hg hb
  go_enter Tryz.func171, Tryz.ntmps171
  go_wp2_with fail
  go_loopw [6] (fun i wr => ∃ k : Nat, k ≤ 2 ∧ i = .int .i64 ((l.length + k : Nat) : Int) ∧ Below w.heap.size w wr) (fun i _ => l.length + 2 - (intOf i).toNat)
  case atStart => exact ⟨0, by omega, rfl, Below.refl _ _⟩
  case round =>
    obtain ⟨k, hk, rfl, hbr⟩ := hrel
    have HBR := hidI hbr
    clear hbr
    by_cases h0 : k < 2
    · have hx : (l ++ [markO l.length, markO (l.length + 1)])[l.length + k]? = some (markO ((l.length + k : Nat) : Int)) := by
        rcases (by omega : k = 0 ∨ k = 1) with rfl | rfl
        · simp
        · simp
      have hat : ∀ (j : Nat) u, (encOp (markO ((l.length + k : Nat) : Int)))[j]? = some u → wr.cell? ⟨g, (l.length + k) * 6 + j, none⟩ = some u := fun j u hj =>
        cell_of_block (blk HBR.out HG.out) (by simpa using flat_at encOp_len _ hx j u hj)
      have x0 := hat 0 (.int .u8 99) rfl
      have x1 := hat 1 (.int .u8 0) rfl
      have x2 := hat 2 (.int .u8 0) rfl
      have x3 := hat 3 (.int .u8 0) rfl
      have x4 := hat 4 (.int .u8 0) rfl
      have x5 := hat 5 (.int .i64 (-1000 - ((l.length + k : Nat) : Int))) rfl
      simp only [Nat.add_zero] at x0
      clear hat hx
      go_wp2_with fail
      refine (isOp_true _ (by omega) (by omega) _).mono ?_
      rintro e w3 ⟨rfl, hb3⟩
      have HB3 := hidI (HBR.out.trans (hb3.mono HBR.out.size))
      clear hb3
      go_wp2_with fail
      exact ⟨⟨k + 1, by omega, by go_num, HB3.out⟩, by simp [intOf]; omega⟩
    · obtain rfl : k = 2 := by omega
      go_wp2_with fail
      refine (sameOps_true (l := l) ?_ (Rd.below HB.out HBR.out) (by omega)).mono ?_
      · have h1 := lit_ops2 HBR.out HG.out
        exact h1
      rintro e w3 ⟨rfl, hb3⟩
      have HB3 := hidI (HBR.out.trans (hb3.mono HBR.out.size))
      clear hb3
      go_wp2_with fail
      go_ret
      exact ⟨rfl, HB3.out⟩

end Go.Proofs.YthmmbldhbdnfpaaGreatDoor

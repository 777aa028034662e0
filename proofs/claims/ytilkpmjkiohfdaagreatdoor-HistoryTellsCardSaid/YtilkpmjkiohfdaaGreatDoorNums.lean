/- turnstilelaw01 over lists of ints: SameNumbers, TwinNumbers, LeftNumbers. -/
import Derived.Test.YtilkpmjkiohfdaaGreatDoorMake
namespace Go.Proofs.YtilkpmjkiohfdaaGreatDoor
open Go.RowKit

def encZ (n : Int) : List Value := [.int .i64 n]
theorem encZ_len : ∀ a, (encZ a).length = 1 := fun _ => rfl

/-- what is given to a caller that wants ints -/
theorem Ints.of_rd {w : World} {v : Value} {zs : List Int} (h : RdT encZ w 1 v zs) : Ints w v zs := by
  obtain ⟨ao, cap, rfl⟩ := Rd.shape h
  have h0 := h
  obtain ⟨-, ao', cap', hv, h2, -⟩ := h0
  simp only [Value.slice.injEq] at hv
  obtain ⟨rfl, -, rfl⟩ := hv
  refine ⟨ao, cap, rfl, h2, fun i hi => ?_⟩
  obtain ⟨x, hx⟩ := some_at hi
  obtain ⟨b, off, rfl, hb, hc⟩ := RdT.at encZ_len h hx
  refine ⟨b, off, rfl, hb, ?_⟩
  have := hc 0 _ rfl
  simp only [Nat.mul_one, Nat.add_zero] at this
  rw [this, nth, List.getD_eq_getElem?_getD, hx]
  rfl
theorem Ints.to_rd {w : World} {v : Value} {zs : List Int} (h : Ints w v zs) : RdT encZ w 1 v zs := by
  obtain ⟨ao, cap, rfl, hc, hat⟩ := h
  refine ⟨flat_len encZ_len zs, ao, cap, rfl, hc, fun h0 => ?_⟩
  obtain ⟨b, off, rfl, hb, -⟩ := hat 0 h0
  refine ⟨b, off, rfl, hb, fun j u hj => ?_⟩
  have e : zs.flatMap encZ = zs.map (Value.int .i64) := by
    have : ∀ l : List Int, l.flatMap encZ = l.map (Value.int .i64) := fun l => by
      induction l with
      | nil => rfl
      | cons a l ih => rw [List.flatMap_cons, ih]; rfl
    exact this zs
  rw [e] at hj
  have hlt : j < zs.length := by
    have := (List.getElem?_eq_some_iff.1 hj).1
    simpa using this
  obtain ⟨b', off', he, -, hcell⟩ := hat j hlt
  simp only [Option.some.injEq, Addr.mk.injEq, and_true] at he
  obtain ⟨rfl, rfl⟩ := he
  rw [hcell]
  simp only [List.getElem?_map, List.getElem?_eq_getElem hlt, Option.map_some, Option.some.injEq] at hj
  rw [← hj, nth, List.getD_eq_getElem?_getD, List.getElem?_eq_getElem hlt]
  rfl

set_option maxHeartbeats 1000000 in
theorem sameNumbers_true {w : World} {ao bo : Option Addr} {ca cb : Nat} {l : List Int} (ha : RdT encZ w 1 (.slice ao l.length ca) l) (hb : RdT encZ w 1 (.slice bo l.length cb) l) (hm : l.length ≤ 9223372036854775807) :
    Calls Tryz.prog 35 #[.slice ao l.length ca, .slice bo l.length cb] w fun e w' => e = .returned (.bool true) ∧ Below w.heap.size w w' := by
  have HA := hidI ha
  have HB := hidI hb
  clear ha hb
  go_enter Tryz.func35, Tryz.ntmps35
  go_wp2
  go_loopw [13] (fun i wr => ∃ k n : Nat, k ≤ l.length ∧ i = .int .i64 k ∧ wr = w.drewN n) (fun i _ => l.length - (intOf i).toNat)
  case atStart => exact ⟨0, 0, Nat.zero_le _, rfl, rfl⟩
  case round =>
    obtain ⟨k, n, hk, rfl, rfl⟩ := hrel
    by_cases hlt : k < l.length
    · obtain ⟨x, hx⟩ := some_at hlt
      obtain ⟨b1, o1, rfl, hs1, hc1⟩ := HA.out.at encZ_len hx
      obtain ⟨b2, o2, rfl, hs2, hc2⟩ := HB.out.at encZ_len hx
      have x0 := hc1 0 _ rfl
      have y0 := hc2 0 _ rfl
      simp only [Nat.add_zero, Nat.mul_one] at x0 y0
      clear hc1 hc2 hx hs1 hs2
      go_wp2_with fail
      go_quiet (fail)
      go_wp2
      exact ⟨⟨k + 1, _, by omega, by go_num, rfl⟩, by simp [intOf]; omega⟩
    · obtain rfl : k = l.length := by omega
      go_wp2
      go_ret
      exact ⟨rfl, below_drewN (Below.refl _ _) n⟩

/-- a mark -/
def markZ (i : Int) : Int := -1000 - i

set_option maxHeartbeats 400000 in
theorem markNumber_any (z : Int) (h0 : 0 ≤ z) (h1 : z ≤ 9223372036854770000) (w : World) :
    Calls Tryz.prog 49 #[.int .i64 z] w fun e w' => e = .returned (.int .i64 (markZ z)) ∧ w' = w := by
  go_enter Tryz.func49, Tryz.ntmps49
  go_wp2
  go_ret
  exact ⟨rfl, rfl⟩

/-- TwinNumbers' post: a copy with two marks behind it -/
def TwinZPost (l : List Int) (w : World) (e : Ending) (w' : World) : Prop :=
  ∃ g, w.heap.size ≤ g ∧ e = .returned (.slice (some ⟨g, 0, none⟩) l.length (l.length + 2)) ∧ w'.heap[g]? = some (.cells ((l ++ [markZ l.length, markZ (l.length + 1)]).flatMap encZ).toArray 3 (0, 0)) ∧ Below w.heap.size w w'

theorem intInfo : (Tryz.prog.info? 3).map (fun i => (i.zero, i.size, i.bytes)) = some (some (.int .i64 0), 1, 8) := by kernel_rfl
theorem intSize : (Tryz.prog.info? 3).map (·.size) = some 1 := by kernel_rfl
theorem one_encZ {l : List Int} : ∀ v ∈ l.flatMap encZ, v.oneCell' = true := by
  intro v hv
  obtain ⟨x, _, hx⟩ := List.mem_flatMap.1 hv
  simp [encZ] at hx
  subst hx; rfl
theorem set1 (A R : List Value) (z x : Value) (i : Nat) (h : A.length = i) : (A ++ z :: R).toArray.setIfInBounds i x = (A ++ x :: R).toArray := by
  subst h
  simp [List.setIfInBounds_toArray]

/-- the copy while its marks are laid -/
def twZ (l : List Int) : Nat → List Value
  | 0 => l.flatMap encZ ++ [.int .i64 0, .int .i64 0]
  | 1 => l.flatMap encZ ++ [.int .i64 (markZ l.length), .int .i64 0]
  | _ => l.flatMap encZ ++ [.int .i64 (markZ l.length), .int .i64 (markZ (l.length + 1))]
theorem twZ_two (l : List Int) : twZ l 2 = (l ++ [markZ l.length, markZ (l.length + 1)]).flatMap encZ := by simp [twZ, encZ]
theorem twZ_split (l : List Int) (k : Nat) (hk : k < 2) : ∃ A R, A.length = l.length + k ∧ twZ l k = A ++ .int .i64 0 :: R ∧ twZ l (k + 1) = A ++ .int .i64 (markZ ((l.length + k : Nat) : Int)) :: R := by
  have hl := flat_len encZ_len l
  match k, hk with
  | 0, _ => exact ⟨l.flatMap encZ, [.int .i64 0], by simpa using hl, rfl, rfl⟩
  | 1, _ => exact ⟨l.flatMap encZ ++ [.int .i64 (markZ l.length)], [], by simp [hl], by simp [twZ], by simp [twZ]⟩

set_option maxRecDepth 100000 in
set_option maxHeartbeats 1000000 in
theorem twinNumbers_any {w : World} {ao : Option Addr} {ca : Nat} {l : List Int} (ha : RdT encZ w 1 (.slice ao l.length ca) l) (hm : l.length ≤ 8796093022207) :
    Calls Tryz.prog 8 #[.slice ao l.length ca] w (TwinZPost l w) := by
  obtain ⟨i0, hi, hz0, hz1, hz2⟩ := info_parts intInfo
  have HA := hidI ha
  clear ha
  go_enter Tryz.func8, Tryz.ntmps8
  go_wp2_with (at_make; refine wpList_make_s _ rfl _ _ 22 rfl 3 i0 _ 1 [.int .i64 0] Tryz.underlying22 hi hz0 hz1 rfl rfl (by decide) _ _ _ _ l.length (l.length + 2) rfl rfl rfl ?b0 ?b1 ?b2 ?b3 ?_)
  case b0 => omega
  case b1 => omega
  case b2 => rw [hz2]; omega
  case b3 => unfold maxLen; omega
  intro w1 hg1 hs1 hb1
  have HG1 := hidI hg1
  clear hg1
  have hrd : Rd w1 1 (.slice ao l.length ca) l.length (l.flatMap encZ) := HA.out.below hb1
  have HRD := hidI hrd
  clear hrd
  go_wp2_with (refine wpList_copy_s (o := ⟨some 14, _, _, _, _, _⟩) rfl _ _ 22 22 rfl 3 1 Tryz.underlying22 intSize w.heap.size l.length (l.length + 2) _ (l.flatMap encZ) rfl rfl HRD.out _ _ HG1.out ?d1 one_encZ ?_)
  case d1 => rw [flat_len encZ_len]; simp
  intro w2 hg2 hs2 hc2
  have hg2' : w2.heap[w.heap.size]? = some (.cells (l.flatMap encZ ++ [Value.int .i64 0, .int .i64 0]).toArray 3 (0, 0)) := by
    rw [hg2]
  have HG2 := hidI hg2'
  have HB2 := hidI (hc2.below hb1 (by omega) (by rintro k rfl; exact Nat.le_refl _))
  clear hg2 hg2' HG1 HRD hc2
  have HL := hidI (flat_len encZ_len l)
  go_wp2_with fail
  go_loopw [5] (fun i wr => ∃ k : Nat, k ≤ 2 ∧ i = .int .i64 ((l.length + k : Nat) : Int) ∧ wr.heap[w.heap.size]? = some (.cells (twZ l k).toArray 3 (0, 0)) ∧ Below w.heap.size w wr ∧ w.heap.size < wr.heap.size) (fun i _ => l.length + 2 - (intOf i).toNat)
  case atStart => exact ⟨0, by omega, rfl, HG2.out, HB2.out, by omega⟩
  case round =>
    obtain ⟨k, hk, rfl, hblk, hbr, hsr⟩ := hrel
    by_cases h0 : k < 2
    · obtain ⟨A, R, hA, t1, t2⟩ := twZ_split l k h0
      rw [t1] at hblk
      have d0 : wr.cell? ⟨w.heap.size, l.length + k, none⟩ = some (.int .i64 0) := cell_of_block hblk (by rw [List.getElem?_toArray, List.getElem?_append_right (by omega), hA]; simp)
      have f0 := free_of_block (o := l.length + k) hblk
      have HK := hidI hblk
      have HA' := hidI hA
      have HT := hidI t2
      clear hblk hA t1 t2
      go_wp2_with fail
      refine (markNumber_any _ (by omega) (by omega) _).mono ?_
      rintro e w3 ⟨rfl, rfl⟩
      go_wp2_with fail
      refine ⟨⟨k + 1, by omega, by go_num, ?_, hbr.setCell (Nat.le_refl _) _, by simp [World.setCell]; omega⟩, by simp [intOf]; omega⟩
      rw [HT.out, ← set1 _ _ (.int .i64 0) _ _ HA'.out]
      exact block_setCell _ HK.out
    · obtain rfl : k = 2 := by omega
      have HK := hidI hblk
      clear hblk
      go_wp2
      go_ret
      exact ⟨w.heap.size, Nat.le_refl _, rfl, by rw [← twZ_two]; exact HK.out, hbr⟩

set_option maxHeartbeats 1000000 in
theorem isNumber_true (z : Int) (h0 : 0 ≤ z) (h1 : z ≤ 9223372036854770000) (w : World) :
    Calls Tryz.prog 132 #[.int .i64 (-1000 - z), .int .i64 z] w fun e w' => e = .returned (.bool true) ∧ w' = w := by
  go_enter Tryz.func132, Tryz.ntmps132
  go_wp2_with fail
  refine (markNumber_any z h0 h1 _).mono ?_
  rintro e w1 ⟨rfl, rfl⟩
  have e1 : (-1000 - z == markZ z) = true := by simp [markZ]
  go_wp2_with fail
  go_ret
  exact ⟨rfl, rfl⟩

/-- a list that lies at a block's head reads as it -/
theorem head_nums {w : World} {g : Nat} {t : TypeId} {l m : List Int} {c : Nat} (h : w.heap[g]? = some (.cells ((l ++ m).flatMap encZ).toArray t (0, 0))) (hc : l.length ≤ c) : RdT encZ w 1 (.slice (some ⟨g, 0, none⟩) l.length c) l := by
  refine ⟨flat_len encZ_len l, _, _, rfl, hc, fun _ => ⟨g, 0, rfl, lt_of_block h, fun j u hj => ?_⟩⟩
  rw [Nat.zero_add]
  refine cell_of_block h ?_
  have hlt := (List.getElem?_eq_some_iff.1 hj).1
  simp only [List.getElem?_toArray, List.flatMap_append]
  rw [List.getElem?_append_left hlt]
  exact hj

set_option maxHeartbeats 2000000 in
theorem leftNumbers_true {w : World} {g : Nat} {bo : Option Addr} {cb : Nat} {l : List Int} (hg : w.heap[g]? = some (.cells ((l ++ [markZ l.length, markZ (l.length + 1)]).flatMap encZ).toArray 3 (0, 0)))
    (hb : RdT encZ w 1 (.slice bo l.length cb) l) (hm : l.length ≤ 8796093022207) :
    Calls Tryz.prog 14 #[.slice (some ⟨g, 0, none⟩) l.length (l.length + 2), .slice bo l.length cb] w fun e w' => e = .returned (.bool true) ∧ Below w.heap.size w w' := by
  have HG := hidI hg
  have HB := hidI hb
  clear hg hb
  go_enter Tryz.func14, Tryz.ntmps14
  go_wp2_with fail
  go_loopw [6] (fun i wr => ∃ k : Nat, k ≤ 2 ∧ i = .int .i64 ((l.length + k : Nat) : Int) ∧ Below w.heap.size w wr) (fun i _ => l.length + 2 - (intOf i).toNat)
  case atStart => exact ⟨0, by omega, rfl, Below.refl _ _⟩
  case round =>
    obtain ⟨k, hk, rfl, hbr⟩ := hrel
    have HBR := hidI hbr
    clear hbr
    by_cases h0 : k < 2
    · have hx : (l ++ [markZ l.length, markZ (l.length + 1)])[l.length + k]? = some (markZ ((l.length + k : Nat) : Int)) := by
        rcases (by omega : k = 0 ∨ k = 1) with rfl | rfl
        · simp
        · simp
      have x0 : wr.cell? ⟨g, l.length + k, none⟩ = some (.int .i64 (-1000 - ((l.length + k : Nat) : Int))) :=
        cell_of_block (blk HBR.out HG.out) (by have := flat_at encZ_len _ hx 0 _ rfl; simpa [markZ] using this)
      clear hx
      go_wp2_with fail
      refine (isNumber_true _ (by omega) (by omega) _).mono ?_
      rintro e w3 ⟨rfl, rfl⟩
      go_wp2_with fail
      exact ⟨⟨k + 1, by omega, by go_num, HBR.out⟩, by simp [intOf]; omega⟩
    · obtain rfl : k = 2 := by omega
      go_wp2_with fail
      refine (sameNumbers_true (l := l) (head_nums (blk HBR.out HG.out) (by omega)) (Rd.below HB.out HBR.out) (by omega)).mono ?_
      rintro e w3 ⟨rfl, hb3⟩
      have HB3 := hidI (HBR.out.trans (hb3.mono HBR.out.size))
      clear hb3
      go_wp2_with fail
      go_ret
      exact ⟨rfl, HB3.out⟩

end Go.Proofs.YtilkpmjkiohfdaaGreatDoor

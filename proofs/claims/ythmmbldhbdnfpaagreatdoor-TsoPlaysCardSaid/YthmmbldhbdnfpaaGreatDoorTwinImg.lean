/- turnstilelaw01.TwinOpRows, LeftOpRows, TwinImage, LeftImage; how great an image's rows are. -/
import Derived.Test.YthmmbldhbdnfpaaGreatDoorTwinOp
import Derived.Test.YthmmbldhbdnfpaaGreatDoorTwinCell
import Derived.Test.YthmmbldhbdnfpaaGreatDoorPlayF
namespace Go.Proofs.YthmmbldhbdnfpaaGreatDoor
open Go.RowKit
set_option linter.unusedVariables false
set_option linter.unusedSimpArgs false

variable {w w' : World}

set_option maxRecDepth 100000 in
set_option maxHeartbeats 1000000 in
theorem imageSize3_any {ca cca : Option Addr} {ccap ccca : Nat} {l : List (Value × List OpD)} {cs : List (Int × Int)} (h : CodeAt w (.slice ca l.length ccap) l) (mem : Int) (hl : l.length ≤ 9223372036854775807) (hcl : cs.length ≤ 9223372036854775807) (hol : ∀ p ∈ l, p.2.length ≤ 9223372036854775807) :
    Calls Tryz.prog 6 #[.agg #[.slice ca l.length ccap, .int .i64 mem, .slice cca cs.length ccca]] w fun e w' => ∃ z : Int, e = .returned (.int .i64 z) ∧ (0 ≤ z ∧ z ≤ 262145) ∧ (z ≤ 262144 → cs.length ≤ 262144 ∧ l.length ≤ 262144 ∧ ∀ p ∈ l, p.2.length ≤ 262144) ∧ Below w.heap.size w w' := by
  have H := hidI h
  have HOL := hidI hol
  have hb0 : Below w.heap.size w (w.alloc (.cells #[.slice ca l.length ccap, .int .i64 mem, .slice cca cs.length ccca] 25)) := (Below.refl _ _).alloc (Nat.le_refl _) _
  have H0 := hidI (h.below hb0)
  have HB0 := hidI hb0
  clear h hol hb0
  go_enter Tryz.func6, Tryz.ntmps6
  go_wp2_with fail
  have hbox := block_new w (.cells #[.slice ca l.length ccap, .int .i64 mem, .slice cca cs.length ccca] 25)
  obtain ⟨w0, hw0⟩ : ∃ w0, w0 = w.alloc (.cells #[.slice ca l.length ccap, .int .i64 mem, .slice cca cs.length ccca] 25) := ⟨_, rfl⟩
  rw [← hw0] at hbox H0 HB0 ⊢
  have HBX := hidI hbox
  clear hw0 hbox
  go_loopw [3, 4] (fun v i w' => ∃ (k : Nat) (z : Int), k ≤ l.length ∧ i = .int .i64 (k : Int) ∧ v = .int .i64 z ∧ -9223372036854775808 ≤ z ∧ z ≤ 262144 - cs.length - k ∧ Hid (∀ p ∈ l.take k, (p.2.length : Int) ≤ 262144 - z) ∧ ∃ n, w' = w0.drewN n) (fun v i _ => ((l.length : Int) - intOf i).toNat)
  case atStart => exact ⟨0, 262144 - cs.length, by omega, rfl, rfl, by omega, by omega, hidI (fun p hp => absurd hp (by simp)), 0, rfl⟩
  case round =>
    obtain ⟨k, z, hk, rfl, rfl, hz1, hz2, HEA, n, rfl⟩ := hrel
    have q0 : w0.cell? ⟨w.heap.size, 0, none⟩ = some (.slice ca l.length ccap) := cell_of_block HBX.out rfl
    by_cases hlt : k < l.length
    · by_cases hz0 : z < 0
      · go_wp2_with fail
        refine (counted_any _ z ⟨hz1, by omega⟩).mono ?_
        rintro e w1 ⟨rfl, hb⟩
        have HB := hidI (below_drewN HB0.out n |>.trans (hb.mono HB0.out.size))
        clear hb
        rw [if_pos hz0]
        go_wp2_with fail
        go_ret
        exact ⟨262145, rfl, by omega, by omega, HB.out⟩
      · have hz3 : z ≥ 0 := by omega
        obtain ⟨p, hp⟩ := some_at hlt
        have hol := HOL.out p (List.mem_of_getElem? hp)
        obtain ⟨gb, co, rfl, hgb, hcc⟩ := RdT.at encC_len H0.out.rows hp
        have i0 := hcc 0 _ rfl
        obtain ⟨ao, cap, hcv⟩ := (H0.out.each p (List.mem_of_getElem? hp)).shape
        rw [Nat.mul_one, Nat.add_zero, hcv] at i0
        have HP := hidI hp
        clear hcc hcv hp
        go_wp2_with fail
        exact ⟨⟨k + 1, _, by omega, by go_num, rfl, by omega, by omega, hidI (fun q hq => by
          rw [take_snoc HP.out] at hq
          rcases List.mem_append.1 hq with hq | hq
          · have := HEA.out q hq; omega
          · rw [List.mem_singleton.1 hq]; omega), n, rfl⟩, by simp [intOf]; omega⟩
    · obtain rfl : k = l.length := by omega
      go_wp2_with fail
      refine (counted_any _ z ⟨hz1, by omega⟩).mono ?_
      rintro e w1 ⟨rfl, hb⟩
      have HB := hidI (below_drewN HB0.out n |>.trans (hb.mono HB0.out.size))
      clear hb
      by_cases hz0 : z < 0
      · rw [if_pos hz0]
        go_wp2_with fail
        go_ret
        exact ⟨262145, rfl, by omega, by omega, HB.out⟩
      · rw [if_neg hz0]
        go_wp2_with fail
        go_ret
        exact ⟨262144 - z, rfl, by omega, fun _ => ⟨by omega, by omega, fun q hq => by have := HEA.out q (by rw [List.take_length]; exact hq); omega⟩, HB.out⟩

/-! ### what hangs on the rows' code alone -/
theorem checkM_snd {mem : Int} {l l' : List (Value × List OpD)} {cs : List (Int × Int)} (h : l.map (·.2) = l'.map (·.2)) : checkM mem l cs = checkM mem l' cs := by
  have h1 : l.length = l'.length := by simpa using congrArg List.length h
  have h2 : countS l = countS l' := by
    have e : ∀ x : List (Value × List OpD), countS x = ((x.map (·.2)).map fun q => min q.length 262145).sum := fun x => by simp [countS, Function.comp_def]
    rw [e, e, h]
  have h3 : (l.all fun p => p.2.all checkS) = (l'.all fun p => p.2.all checkS) := by
    have e : ∀ x : List (Value × List OpD), (x.all fun p => p.2.all checkS) = ((x.map (·.2)).all fun q => q.all checkS) := fun x => by simp [List.all_map, Function.comp_def]
    rw [e, e, h]
  unfold checkM
  rw [h1, h2, h3]

/-! ### a row of code, twice -/
/-- the mark of a row's place: a row of so many zero instructions -/
def rowMark (n : Int) (a : Option Addr) : Value := .slice a (1 + n % 40).toNat (1 + n % 40).toNat
theorem mod40r (n : Int) : 0 ≤ n % 40 ∧ n % 40 < 40 := ⟨Int.emod_nonneg _ (by decide), Int.emod_lt_of_pos _ (by decide)⟩

set_option maxHeartbeats 400000 in
theorem markOpRow_any (w : World) (n : Int) (h0 : 0 ≤ n) (h1 : n ≤ 1000000) : Calls Tryz.prog 166 #[.int .i64 n] w fun e w' => ∃ a, e = .returned (rowMark n a) ∧ Below w.heap.size w w' := by
  obtain ⟨hm0, hm1⟩ := mod40r n
  obtain ⟨i0, hi, hz0, hz1, hz2⟩ := info_parts opInfo
  have e0 : Int.tmod n 40 = n % 40 := Int.tmod_eq_emod_of_nonneg h0
  go_enter Tryz.func166, Tryz.ntmps166
  go_wp2_with (at_make; refine wpList_make_s _ rfl _ _ 40 rfl 44 i0 _ 6 (encOp zeroO) Tryz.underlying40 hi hz0 hz1 rfl rfl (by decide) _ _ _ _ (1 + n % 40).toNat (1 + n % 40).toNat rfl rfl ?b0 ?b1 ?b2 ?b3 ?b4 ?_)
  case b0 => first | (rw [e0]; omega) | omega
  case b1 => first | (rw [e0]; omega) | omega
  case b2 => exact Nat.le_refl _
  case b3 => rw [hz2]; omega
  case b4 => unfold maxLen; omega
  intro w1 hg1 hs1 hb1
  have HB1 := hidI hb1
  clear hg1 hs1 hb1
  go_wp2_with fail
  go_ret
  exact ⟨_, rfl, HB1.out⟩

set_option maxHeartbeats 400000 in
theorem isOpRow_any (w : World) (n : Int) (a : Option Addr) (h0 : 0 ≤ n) (h1 : n ≤ 1000000) : Calls Tryz.prog 172 #[rowMark n a, .int .i64 n] w fun e w' => e = .returned (.bool true) ∧ Below w.heap.size w w' := by
  obtain ⟨hm0, hm1⟩ := mod40r n
  have e0 : Int.tmod n 40 = n % 40 := Int.tmod_eq_emod_of_nonneg h0
  unfold rowMark
  obtain ⟨L, hL⟩ : ∃ L : Nat, (1 + n % 40).toNat = L := ⟨_, rfl⟩
  have hL2 : (L : Int) = 1 + n % 40 := by omega
  rw [hL]
  clear hL
  go_enter Tryz.func172, Tryz.ntmps172
  go_wp2_with fail
  go_ret
  exact ⟨rfl, Below.refl _ _⟩

/-- a row's copy: where it lies -/
def TwRow (w : World) (base : Nat) (p : Value × List OpD) : Prop :=
  ∃ g, base ≤ g ∧ p.1 = .slice (some ⟨g, 0, none⟩) p.2.length (p.2.length + 2) ∧ w.heap[g]? = some (.cells ((p.2 ++ [markO p.2.length, markO (p.2.length + 1)]).flatMap encOp).toArray 44 (0, 0))
theorem TwRow.keep {base : Nat} {p : Value × List OpD} (h : TwRow w base p) (hk : ∀ g, base ≤ g → g < w.heap.size → w'.heap[g]? = w.heap[g]?) : TwRow w' base p := by
  obtain ⟨g, h1, h2, h3⟩ := h
  exact ⟨g, h1, h2, (hk g h1 (lt_of_block h3)).trans h3⟩
theorem TwRow.keepN {base : Nat} {p : Value × List OpD} (h : TwRow w base p) (hk : ∀ g, base ≤ g → p.1.ownBlock = some g → g < w.heap.size → w'.heap[g]? = w.heap[g]?) : TwRow w' base p := by
  obtain ⟨g, h1, h2, h3⟩ := h
  exact ⟨g, h1, h2, (hk g h1 (by rw [h2]; rfl) (lt_of_block h3)).trans h3⟩
theorem TwRow.below {base : Nat} {p : Value × List OpD} (h : TwRow w base p) (hb : Below w.heap.size w w') : TwRow w' base p := h.keep fun g _ hl => hb.block g hl
theorem TwRow.rd {base : Nat} {p : Value × List OpD} (h : TwRow w base p) : RdT encOp w 6 p.1 p.2 := by
  obtain ⟨g, h1, h2, h3⟩ := h
  rw [h2]
  exact head_ops h3 (by omega)
/-- the copy of an image's code -/
def TwCode (w : World) (base : Nat) (l : List (List OpD)) (v : Value) (tl : List (Value × List OpD)) : Prop :=
  ∃ g a0 a1, v = .slice (some ⟨g, 0, none⟩) l.length (l.length + 2) ∧ base ≤ g ∧ tl.map (·.2) = l ∧ (∀ p ∈ tl, TwRow w base p) ∧
    w.heap[g]? = some (.cells (tl.flatMap encC ++ [rowMark l.length a0, rowMark (l.length + 1) a1]).toArray 40 (0, 0))
theorem TwCode.below {base : Nat} {l : List (List OpD)} {v : Value} {tl : List (Value × List OpD)} (h : TwCode w base l v tl) (hb : Below w.heap.size w w') : TwCode w' base l v tl := by
  obtain ⟨g, a0, a1, h1, h2, h3, h4, h5⟩ := h
  exact ⟨g, a0, a1, h1, h2, h3, fun p hp => (h4 p hp).below hb, blk hb h5⟩
theorem TwCode.code {base : Nat} {l : List (Value × List OpD)} {v : Value} {tl : List (Value × List OpD)} (h : TwCode w base (l.map (·.2)) v tl) (hw : ∀ p ∈ l, ∀ o ∈ p.2, wfOp o) : ∃ g, v = .slice (some ⟨g, 0, none⟩) tl.length (tl.length + 2) ∧ CodeAt w (.slice (some ⟨g, 0, none⟩) tl.length (tl.length + 2)) tl := by
  obtain ⟨g, a0, a1, h1, h2, h3, h4, h5⟩ := h
  have hl : (l.map (·.2)).length = tl.length := by rw [← h3]; simp
  refine ⟨g, by rw [h1, hl], ⟨⟨flat_len encC_len tl, _, _, rfl, by omega, fun _ => ⟨g, 0, rfl, lt_of_block h5, fun j u hj => ?_⟩⟩, fun p hp => (h4 p hp).rd, fun p hp o ho => ?_⟩⟩
  · rw [Nat.zero_add]
    refine cell_of_block h5 ?_
    have hlt := (List.getElem?_eq_some_iff.1 hj).1
    simp only [List.getElem?_toArray]
    rw [List.getElem?_append_left hlt]
    exact hj
  · have h9 : p.2 ∈ l.map (·.2) := by rw [← h3]; exact List.mem_map_of_mem hp
    obtain ⟨q, hq, e⟩ := List.mem_map.1 h9
    exact hw q hq o (by rw [e]; exact ho)

theorem rowInfo : (Tryz.prog.info? 40).map (fun i => (i.zero, i.size, i.bytes)) = some (some (.slice none 0 0), 1, 24) := by kernel_rfl
theorem encC_flat (tl : List (Value × List OpD)) : tl.flatMap encC = tl.map (·.1) := by
  induction tl with
  | nil => rfl
  | cons p r ih => rw [List.flatMap_cons, ih]; rfl

set_option maxRecDepth 100000 in
set_option maxHeartbeats 2000000 in
theorem twinOpRows_any {ao : Option Addr} {ca : Nat} {l : List (Value × List OpD)} (h : CodeAt w (.slice ao l.length ca) l) (hm : l.length ≤ 262144) (hr : ∀ p ∈ l, p.2.length ≤ 262144) :
    Calls Tryz.prog 30 #[.slice ao l.length ca] w fun e w' => ∃ v tl, e = .returned v ∧ TwCode w' w.heap.size (l.map (·.2)) v tl ∧ Below w.heap.size w w' := by
  obtain ⟨i0, hi, hz0, hz1, hz2⟩ := info_parts rowInfo
  have H := hidI h
  have HR := hidI hr
  clear h hr
  go_enter Tryz.func30, Tryz.ntmps30
  go_wp2_with (at_make; refine wpList_make_s _ rfl _ _ 22 rfl 40 i0 _ 1 [.slice none 0 0] Tryz.underlying22 hi hz0 hz1 rfl rfl (by decide) _ _ _ _ l.length (l.length + 2) rfl rfl rfl ?b0 ?b1 ?b2 ?b3 ?_)
  case b0 => omega
  case b1 => omega
  case b2 => rw [hz2]; omega
  case b3 => unfold maxLen; omega
  intro w1 hg1 hs1 hb1
  have HG1 := hidI hg1
  have HS1 := hidI hs1
  have HB1 := hidI hb1
  clear hg1 hs1 hb1 hi hz0 hz1 hz2
  go_wp2_with fail
  go_loopw [15] (fun i wr => ∃ k : Nat, k ≤ l.length ∧ i = .int .i64 (k : Int) ∧ Hid (∃ tl : List (Value × List OpD), tl.map (·.2) = (l.take k).map (·.2) ∧ (∀ p ∈ tl, TwRow wr (w.heap.size + 1) p) ∧ wr.heap[w.heap.size]? = some (.cells (tl.map (fun p => p.1) ++ List.replicate (l.length + 2 - k) (Value.slice none 0 0)).toArray 40 (0, 0))) ∧ Hid (Below w.heap.size w wr)) (fun i _ => l.length - (intOf i).toNat)
  case atStart =>
    refine ⟨0, by omega, rfl, hidI ⟨[], rfl, fun p hp => absurd hp (by simp), ?_⟩, HB1⟩
    rw [HG1.out]
    congr 3
  case round =>
    obtain ⟨k, hk, rfl, HT, HW⟩ := hrel
    by_cases hlt : k < l.length
    · obtain ⟨p, hp⟩ := some_at hlt
      obtain ⟨b1, o1, rfl, hs1, hc1⟩ := RdT.at encC_len (Rd.below H.out.rows HW.out) hp
      have x0 := hc1 0 _ rfl
      obtain ⟨pa, pc, hpv⟩ := (H.out.each p (List.mem_of_getElem? hp)).shape
      rw [Nat.mul_one, Nat.add_zero, hpv] at x0
      have hrow := Rd.below (H.out.each p (List.mem_of_getElem? hp)) HW.out
      rw [hpv] at hrow
      obtain ⟨tl, ht1, ht2, ht3⟩ := HT.out
      have HP := hidI hp
      have HROW := hidI hrow
      have HPL := hidI (HR.out p (List.mem_of_getElem? hp))
      have HT1 := hidI ht1
      have HT2 := hidI ht2
      have HT3 := hidI ht3
      clear hc1 hs1 hp hpv hrow ht1 ht2 ht3 HT
      go_wp2_with fail
      refine (twinOps_any HROW.out (by have := HPL.out; omega)).mono ?_
      rintro e w2 ⟨g, hg, rfl, hblk, hb⟩
      have ht3 := blk hb HT3.out
      have htl : tl.length = k := by have := congrArg List.length HT1.out; simp at this; omega
      obtain ⟨R, hR⟩ : ∃ R, List.replicate (l.length + 2 - k) (Value.slice none 0 0) = Value.slice none 0 0 :: R ∧ R = List.replicate (l.length + 2 - (k + 1)) (Value.slice none 0 0) := by
        refine ⟨_, ?_, rfl⟩
        rw [show l.length + 2 - k = (l.length + 2 - (k + 1)) + 1 by omega, List.replicate_succ]
      rw [hR.1] at ht3
      have d0 : w2.cell? ⟨w.heap.size, k, none⟩ = some (.slice none 0 0) := cell_of_block ht3 (by rw [List.getElem?_toArray, List.getElem?_append_right (by simp; omega)]; simp [htl])
      have f0 := free_of_block (o := k) ht3
      have HT3' := hidI ht3
      have HRR := hidI hR.2
      have HTL := hidI htl
      have HG := hidI hg
      have HBK := hidI hblk
      have HB := hidI hb
      have HB2 := hidI (HW.out.trans (hb.mono HW.out.size))
      have HWS := hidI (lt_of_block HT3.out)
      clear hg hblk hb ht3 hR htl HT3
      go_wp2_with fail
      refine ⟨⟨k + 1, by omega, by go_num, hidI ⟨tl ++ [(.slice (some ⟨g, 0, none⟩) p.2.length (p.2.length + 2), p.2)], ?_, fun q hq => ?_, ?_⟩, hidI (HB2.out.setCell (Nat.le_refl _) _)⟩, by simp [intOf]; omega⟩
      · rw [List.map_append, HT1.out, take_snoc HP.out, List.map_append]; rfl
      · have hne : ∀ b, w.heap.size + 1 ≤ b → (w2.setCell ⟨w.heap.size, k, none⟩ (.slice (some ⟨g, 0, none⟩) p.2.length (p.2.length + 2))).heap[b]? = w2.heap[b]? := fun b hb => Below.heap_setCell _ _ _ _ (by simp only; omega)
        rcases List.mem_append.1 hq with hq | hq
        · exact ((HT2.out q hq).below HB.out).keep fun b hb _ => hne b hb
        · rw [List.mem_singleton.1 hq]
          exact ⟨g, by have := HG.out; have := HWS.out; omega, rfl, (hne g (by have := HG.out; have := HWS.out; omega)).trans HBK.out⟩
      · have := block_setCell (o := k) (.slice (some ⟨g, 0, none⟩) p.2.length (p.2.length + 2)) HT3'.out
        rw [this, ← HRR.out]
        congr 2
        have hl : (tl.map (·.1)).length = k := by rw [List.length_map]; exact HTL.out
        rw [set1O _ _ _ _ k hl]
        simp
    · obtain rfl : k = l.length := by omega
      obtain ⟨tl, ht1, ht2, ht3⟩ := HT.out
      rw [List.take_length] at ht1
      rw [show l.length + 2 - l.length = 2 from by omega] at ht3
      have htl : tl.length = l.length := by have := congrArg List.length ht1; simpa using this
      have HT1 := hidI ht1
      have HT2 := hidI ht2
      have HT3 := hidI ht3
      have HTL := hidI htl
      obtain ⟨w3, rfl⟩ : ∃ x, x = wr := ⟨_, rfl⟩
      clear ht1 ht2 ht3 htl HT
      go_wp2_with fail
      go_loopw [6] (fun i wr => ∃ (k : Nat) (m0 m1 : Value), k ≤ 2 ∧ i = .int .i64 ((l.length + k : Nat) : Int) ∧ Hid ((0 < k → ∃ a, m0 = rowMark l.length a) ∧ (1 < k → ∃ a, m1 = rowMark (l.length + 1) a) ∧ wr.heap[w.heap.size]? = some (.cells (tl.map (·.1) ++ [m0, m1]).toArray 40 (0, 0)) ∧ (k ≤ 1 → m1 = .slice none 0 0) ∧ (k = 0 → m0 = .slice none 0 0)) ∧ Hid (∀ p ∈ tl, TwRow wr (w.heap.size + 1) p) ∧ Hid (Below w.heap.size w wr)) (fun i _ => l.length + 2 - (intOf i).toNat)
      case atStart => exact ⟨0, .slice none 0 0, .slice none 0 0, by omega, rfl, hidI ⟨by omega, by omega, by simpa using HT3.out, fun _ => rfl, fun _ => rfl⟩, HT2, HW⟩
      case round =>
        obtain ⟨k, m0, m1, hk, rfl, HM, HRW, HWW⟩ := hrel
        by_cases h0 : k < 2
        · obtain ⟨hm0, hm1, hblk, hn1, hn0⟩ := HM.out
          have hz : (tl.map (·.1) ++ [m0, m1])[l.length + k]? = some (.slice none 0 0) := by
            rw [List.getElem?_append_right (by rw [List.length_map, HTL.out]; omega), List.length_map, HTL.out, show l.length + k - l.length = k from by omega]
            rcases (by omega : k = 0 ∨ k = 1) with rfl | rfl
            · simp [hn0 rfl]
            · simp [hn1 (by omega)]
          have d0 : wr.cell? ⟨w.heap.size, l.length + k, none⟩ = some (.slice none 0 0) := cell_of_block hblk (by rw [List.getElem?_toArray]; exact hz)
          have f0 := free_of_block (o := l.length + k) hblk
          have HBK := hidI hblk
          have HZ := hidI hz
          clear hm0 hm1 hblk hn1 hn0 hz
          go_wp2_with fail
          refine (markOpRow_any _ ((l.length + k : Nat) : Int) (by omega) (by omega)).mono ?_
          rintro e w4 ⟨a, rfl, hb⟩
          have hbk := blk hb HBK.out
          clear d0 f0
          have d0 : w4.cell? ⟨w.heap.size, l.length + k, none⟩ = some (.slice none 0 0) := cell_of_block hbk (by rw [List.getElem?_toArray]; exact HZ.out)
          have f0 := free_of_block (o := l.length + k) hbk
          have HBK4 := hidI hbk
          have HB := hidI hb
          obtain ⟨ma, mn, hmv⟩ : ∃ ma mn, rowMark ((l.length + k : Nat) : Int) a = .slice ma mn mn := ⟨_, _, rfl⟩
          have HMV := hidI hmv
          rw [hmv]
          clear hb hbk hmv
          go_wp2_with fail
          have hset := block_setCell (o := l.length + k) (.slice ma mn mn) HBK4.out
          have hne : ∀ b, w.heap.size + 1 ≤ b → (w4.setCell ⟨w.heap.size, l.length + k, none⟩ (.slice ma mn mn)).heap[b]? = w4.heap[b]? := fun b hb => Below.heap_setCell _ _ _ _ (by simp only; omega)
          have hrows : ∀ p ∈ tl, TwRow (w4.setCell ⟨w.heap.size, l.length + k, none⟩ (.slice ma mn mn)) (w.heap.size + 1) p := fun p hp => ((HRW.out p hp).below HB.out).keep fun b hb _ => hne b hb
          have hbb : Below w.heap.size w (w4.setCell ⟨w.heap.size, l.length + k, none⟩ (.slice ma mn mn)) := (HWW.out.trans (HB.out.mono HWW.out.size)).setCell (Nat.le_refl _) _
          rcases (by omega : k = 0 ∨ k = 1) with rfl | rfl
          · refine ⟨⟨1, .slice ma mn mn, m1, by omega, by go_num, hidI ⟨fun _ => ⟨a, ?_⟩, by omega, ?_, fun _ => HM.out.2.2.2.1 (by omega), by omega⟩, hidI hrows, hidI hbb⟩, by (simp [intOf]; try omega)⟩
            · rw [← HMV.out]; rfl
            · rw [hset]
              congr 2
              rw [set1O _ _ _ _ (l.length + 0) (by simp [HTL.out])]
          · refine ⟨⟨2, m0, .slice ma mn mn, by omega, by go_num, hidI ⟨fun _ => HM.out.1 (by omega), fun _ => ⟨a, ?_⟩, ?_, by omega, by omega⟩, hidI hrows, hidI hbb⟩, by (simp [intOf]; try omega)⟩
            · rw [← HMV.out]; rfl
            · rw [hset]
              congr 2
              rw [show tl.map (·.1) ++ [m0, m1] = (tl.map (·.1) ++ [m0]) ++ m1 :: [] from by simp, set1O _ _ _ _ (l.length + 1) (by simp [HTL.out])]
              simp
        · obtain rfl : k = 2 := by omega
          obtain ⟨hm0, hm1, hblk, -, -⟩ := HM.out
          obtain ⟨a0, rfl⟩ := hm0 (by omega)
          obtain ⟨a1, rfl⟩ := hm1 (by omega)
          have HBK := hidI hblk
          clear hm0 hm1 hblk HM
          go_wp2_with fail
          go_ret
          refine ⟨_, tl, rfl, ⟨w.heap.size, a0, a1, ?_, Nat.le_refl _, HT1.out, fun p hp => ?_, ?_⟩, HWW.out⟩
          · show Value.slice (some ⟨w.heap.size, 0, none⟩) l.length (l.length + 2) = _
            rw [List.length_map]
          · obtain ⟨g, h1, h2, h3⟩ := HRW.out p hp
            exact ⟨g, by omega, h2, h3⟩
          · rw [encC_flat, List.length_map]
            exact HBK.out

set_option maxRecDepth 100000 in
set_option maxHeartbeats 2000000 in
theorem leftOpRows_true {base : Nat} {bo : Option Addr} {cb : Nat} {v : Value} {l tl : List (Value × List OpD)} (ht : TwCode w base (l.map (·.2)) v tl) (hb : CodeAt w (.slice bo l.length cb) l) (hm : l.length ≤ 262144) (hr : ∀ p ∈ l, p.2.length ≤ 262144) :
    Calls Tryz.prog 38 #[v, .slice bo l.length cb] w fun e w' => e = .returned (.bool true) ∧ Below w.heap.size w w' := by
  obtain ⟨g, a0, a1, rfl, hg, hs, hrow, hblk⟩ := ht
  rw [List.length_map] at hblk ⊢
  have hlen : tl.length = l.length := by have := congrArg List.length hs; simpa using this
  have HB := hidI hb
  have HR := hidI hr
  have HS := hidI hs
  have HROW := hidI hrow
  have HBK := hidI hblk
  have HLEN := hidI hlen
  clear hb hr hs hrow hblk hlen hg
  go_enter Tryz.func38, Tryz.ntmps38
  go_wp2_with fail
  go_loopw [15] (fun i wr => ∃ k : Nat, k ≤ l.length ∧ i = .int .i64 (k : Int) ∧ Hid (Below w.heap.size w wr)) (fun i _ => l.length - (intOf i).toNat)
  case atStart => exact ⟨0, by omega, rfl, hidI (Below.refl _ _)⟩
  case round =>
    obtain ⟨k, hk, rfl, HW⟩ := hrel
    by_cases hlt : k < l.length
    · obtain ⟨p, hp⟩ := some_at hlt
      obtain ⟨q, hq⟩ := some_at (l := tl) (k := k) (by rw [HLEN.out]; exact hlt)
      have hpq : q.2 = p.2 := by
        have h1 := congrArg (fun x => x[k]?) HS.out
        simp only [List.getElem?_map, hp, hq, Option.map_some, Option.some.injEq] at h1
        exact h1
      obtain ⟨b1, o1, rfl, hs1, hc1⟩ := RdT.at encC_len (Rd.below HB.out.rows HW.out) hp
      obtain ⟨pa, pc, hpv⟩ := (HB.out.each p (List.mem_of_getElem? hp)).shape
      have hrd := HB.out.each p (List.mem_of_getElem? hp)
      rw [hpv] at hrd
      obtain ⟨gq, hgq, hqv, hbq⟩ := HROW.out q (List.mem_of_getElem? hq)
      rw [hpq] at hqv hbq
      have x0 : ∀ t, (ext wr t).cell? ⟨b1, o1 + k, none⟩ = some (.slice pa p.2.length pc) := fun t => ext_cell (by have := hc1 0 _ rfl; rw [Nat.mul_one, Nat.add_zero, hpv] at this; exact this) t
      have y0 : ∀ t, (ext wr t).cell? ⟨g, k, none⟩ = some (.slice (some ⟨gq, 0, none⟩) p.2.length (p.2.length + 2)) := fun t => ext_cell (cell_of_block (blk HW.out HBK.out) (by
        rw [List.getElem?_toArray, List.getElem?_append_left (by rw [flat_len encC_len]; have := HLEN.out; omega)]
        have := flat_at encC_len tl hq 0 _ rfl
        rw [Nat.mul_one, Nat.add_zero, hqv] at this
        exact this)) t
      have HRD := hidI (fun t => Rd.below (Rd.below hrd HW.out) (ext_below wr t))
      have HBQ := hidI (fun t => ext_block (blk HW.out hbq) t)
      have HPL := hidI (HR.out p (List.mem_of_getElem? hp))
      clear hp hq hpq hs1 hc1 hpv hrd hgq hqv hbq
      go_wp2_with fail
      refine wp_region_grow (by kernel_rfl) (by kernel_rfl) ?_
      repeat (go_big_quiet_step ((first | (go_at_call 171; exact grow_of (leftOps_true (HBQ.out _) (HRD.out _) (by have := HPL.out; omega))))))
      refine wpQuiet_nil ?_
      intro wU hb
      have HU := hidI (HW.out.trans (hb.mono HW.out.size))
      clear hb
      go_wp2_with fail
      exact ⟨⟨k + 1, by omega, by go_num, HU⟩, by simp [intOf]; omega⟩
    · obtain rfl : k = l.length := by omega
      obtain ⟨w3, rfl⟩ : ∃ x, x = wr := ⟨_, rfl⟩
      go_wp2_with fail
      go_loopw [7] (fun i wr => ∃ k : Nat, k ≤ 2 ∧ i = .int .i64 ((l.length + k : Nat) : Int) ∧ Hid (Below w.heap.size w wr)) (fun i _ => l.length + 2 - (intOf i).toNat)
      case atStart => exact ⟨0, by omega, rfl, HW⟩
      case round =>
        obtain ⟨k, hk, rfl, HWW⟩ := hrel
        by_cases h0 : k < 2
        · obtain ⟨a, ha⟩ : ∃ a, (tl.flatMap encC ++ [rowMark (l.length : Int) a0, rowMark ((l.length : Int) + 1) a1])[l.length + k]? = some (rowMark ((l.length + k : Nat) : Int) a) := by
            have hl9 : (tl.flatMap encC).length = l.length := by rw [flat_len encC_len, HLEN.out]; omega
            rw [List.getElem?_append_right (by omega), hl9, show l.length + k - l.length = k from by omega]
            rcases (by omega : k = 0 ∨ k = 1) with rfl | rfl
            · exact ⟨a0, by simp⟩
            · exact ⟨a1, by simp⟩
          obtain ⟨ma, mn, hmv⟩ : ∃ ma mn, rowMark ((l.length + k : Nat) : Int) a = .slice ma mn mn := ⟨_, _, rfl⟩
          have d0 : wr.cell? ⟨g, l.length + k, none⟩ = some (.slice ma mn mn) := by rw [← hmv]; exact cell_of_block (blk HWW.out HBK.out) (by rw [List.getElem?_toArray]; exact ha)
          have HMV := hidI hmv
          clear ha hmv
          go_wp2_with fail
          refine (show Calls Tryz.prog 172 #[.slice ma mn mn, .int .i64 ((l.length + k : Nat) : Int)] _ (fun e w' => e = .returned (.bool true) ∧ Below _ _ w') from by
            rw [← HMV.out]; exact isOpRow_any _ ((l.length + k : Nat) : Int) a (by omega) (by omega)).mono ?_
          rintro e w4 ⟨rfl, hb⟩
          have HB4 := hidI (HWW.out.trans (hb.mono HWW.out.size))
          clear hb
          go_wp2_with fail
          exact ⟨⟨k + 1, by omega, by go_num, HB4⟩, by simp [intOf]; omega⟩
        · obtain rfl : k = 2 := by omega
          go_wp2_with fail
          go_ret
          exact ⟨rfl, HWW.out⟩

/-! ### an image, twice -/
structure TwImg (w : World) (base : Nat) (l : List (Value × List OpD)) (cs : List (Int × Int)) (v : Value) (tl : List (Value × List OpD)) (gc : Nat) : Prop where
  code : TwCode w base (l.map (·.2)) v tl
  low : base ≤ gc
  cells : w.heap[gc]? = some (.cells ((cs ++ [tmarkCell cs.length, tmarkCell (cs.length + 1)]).flatMap encCell).toArray 105 (0, 0))
theorem TwImg.below {base : Nat} {l tl : List (Value × List OpD)} {cs : List (Int × Int)} {v : Value} {gc : Nat} (h : TwImg w base l cs v tl gc) (hb : Below w.heap.size w w') : TwImg w' base l cs v tl gc := ⟨h.code.below hb, h.low, blk hb h.cells⟩

set_option maxRecDepth 100000 in
set_option maxHeartbeats 2000000 in
theorem twinImage_any {ca cca : Option Addr} {ccap ccca : Nat} {l : List (Value × List OpD)} {cs : List (Int × Int)} {mem : Int} (h : CodeAt w (.slice ca l.length ccap) l) (hc : RdT encCell w 2 (.slice cca cs.length ccca) cs) (hl : l.length ≤ 262144) (hr : ∀ p ∈ l, p.2.length ≤ 262144) (hcl : cs.length ≤ 262144) :
    Calls Tryz.prog 7 #[.agg #[.slice ca l.length ccap, .int .i64 mem, .slice cca cs.length ccca]] w fun e w' => ∃ v tl gc, e = .returned (.agg #[v, .int .i64 mem, .slice (some ⟨gc, 0, none⟩) cs.length (cs.length + 2)]) ∧ TwImg w' w.heap.size l cs v tl gc ∧ Below w.heap.size w w' := by
  have hb0 : Below w.heap.size w ((w.alloc (.cells #[.slice ca l.length ccap, .int .i64 mem, .slice cca cs.length ccca] 25)).alloc (.cells #[.slice none 0 0, .int .i64 0, .slice none 0 0] 25)) := ((Below.refl _ _).alloc (Nat.le_refl _) _).alloc (by simp) _
  have hx0 := block_alloc (o := .cells #[.slice none 0 0, .int .i64 0, .slice none 0 0] 25) (block_new w (.cells #[.slice ca l.length ccap, .int .i64 mem, .slice cca cs.length ccca] 25))
  have hy0 := block_new2 w (.cells #[.slice ca l.length ccap, .int .i64 mem, .slice cca cs.length ccca] 25) (.cells #[.slice none 0 0, .int .i64 0, .slice none 0 0] 25)
  have H0 := hidI (h.below hb0)
  have HC0 := hidI (Rd.below hc hb0)
  have HB0 := hidI hb0
  have HX0 := hidI hx0
  have HY0 := hidI hy0
  have HR := hidI hr
  have HC := hidI hc
  clear h hc hb0 hx0 hy0 hr
  go_enter Tryz.func7, Tryz.ntmps7
  go_wp2_with fail
  refine (twinOpRows_any H0.out hl HR.out).mono ?_
  rintro e w1 ⟨v, tl, rfl, ht, hb⟩
  obtain ⟨vg, va0, va1, hv, -⟩ := id ht
  rw [List.length_map] at hv
  subst hv
  have hx1 := blk hb HX0.out
  have hy1 := blk hb HY0.out
  have d0 : w1.cell? ⟨w.heap.size, 0, none⟩ = some (.slice ca l.length ccap) := cell_of_block hx1 rfl
  have d1 : w1.cell? ⟨w.heap.size, 1, none⟩ = some (.int .i64 mem) := cell_of_block hx1 rfl
  have d2 : w1.cell? ⟨w.heap.size, 2, none⟩ = some (.slice cca cs.length ccca) := cell_of_block hx1 rfl
  have f0 := free_of_block (o := 0) hx1
  have hxs := block_setCell (o := 0) (.slice (some ⟨vg, 0, none⟩) l.length (l.length + 2)) hx1
  have hys := block_other (a := ⟨w.heap.size, 0, none⟩) (u := .slice (some ⟨vg, 0, none⟩) l.length (l.length + 2)) hy1 (by simp only; omega)
  have hb1 := bnext HB0.out hb
  have hs1 : w.heap.size + 2 ≤ w1.heap.size := by have := hb.size; simpa using this
  have hset : ∀ g, w.heap.size + 2 ≤ g → (w1.setCell ⟨w.heap.size, 0, none⟩ (.slice (some ⟨vg, 0, none⟩) l.length (l.length + 2))).heap[g]? = w1.heap[g]? := fun g hg => Below.heap_setCell _ _ _ _ (by simp only; omega)
  have ht2 : TwCode (w1.setCell ⟨w.heap.size, 0, none⟩ (.slice (some ⟨vg, 0, none⟩) l.length (l.length + 2))) (w.heap.size + 2) (l.map (·.2)) (.slice (some ⟨vg, 0, none⟩) l.length (l.length + 2)) tl := by
    obtain ⟨g, a0, a1, h1, h2, h3, h4, h5⟩ := ht
    have hsz : ((w.alloc (.cells #[.slice ca l.length ccap, .int .i64 mem, .slice cca cs.length ccca] 25)).alloc (.cells #[.slice none 0 0, .int .i64 0, .slice none 0 0] 25)).heap.size = w.heap.size + 2 := by simp
    rw [hsz] at h2 h4
    exact ⟨g, a0, a1, h1, h2, h3, fun p hp => (h4 p hp).keep fun b hb' _ => hset b hb', (hset g h2).trans h5⟩
  have HT2 := hidI ht2
  have HX2 := hidI hxs
  have HY2 := hidI hys
  have HB2 := hidI (hb1.setCell (Nat.le_refl w.heap.size) (p := ⟨w.heap.size, 0, none⟩) (.slice (some ⟨vg, 0, none⟩) l.length (l.length + 2)))
  have HC2 := hidI (Rd.below HC.out HB2.out)
  have HS2 := hidI (show w.heap.size + 2 ≤ (w1.setCell ⟨w.heap.size, 0, none⟩ (.slice (some ⟨vg, 0, none⟩) l.length (l.length + 2))).heap.size from by simpa [World.setCell] using hs1)
  clear ht hb hx1 hxs hy1 hys hb1 hs1 hset ht2 H0 HC0 HX0 HY0
  go_wp2_with fail
  generalize w1.setCell ⟨w.heap.size, 0, none⟩ (.slice (some ⟨vg, 0, none⟩) l.length (l.length + 2)) = w2 at HT2 HX2 HY2 HB2 HC2 HS2 ⊢
  clear d0 d1 d2 f0
  refine (twinCells_any HC2.out hcl).mono ?_
  rintro e w3 ⟨gc, hgc, rfl, hcb, hb⟩
  have hx3 := blk hb HX2.out
  have hy3 := blk hb HY2.out
  have d0 : w3.cell? ⟨w.heap.size, 0, none⟩ = some (.slice (some ⟨vg, 0, none⟩) l.length (l.length + 2)) := cell_of_block hx3 rfl
  have d1 : w3.cell? ⟨w.heap.size, 1, none⟩ = some (.int .i64 mem) := cell_of_block hx3 rfl
  have d2 : w3.cell? ⟨w.heap.size, 2, none⟩ = some (.slice cca cs.length ccca) := cell_of_block hx3 rfl
  have f2 := free_of_block (o := 2) hx3
  have e0 : w3.cell? ⟨w.heap.size + 1, 0, none⟩ = some (.slice none 0 0) := cell_of_block hy3 rfl
  have e1 : w3.cell? ⟨w.heap.size + 1, 1, none⟩ = some (.int .i64 0) := cell_of_block hy3 rfl
  have e2 : w3.cell? ⟨w.heap.size + 1, 2, none⟩ = some (.slice none 0 0) := cell_of_block hy3 rfl
  have g0 := free_of_block (o := 0) hy3
  have g1 := free_of_block (o := 1) hy3
  have g2 := free_of_block (o := 2) hy3
  have HT3 := hidI (HT2.out.below hb)
  have HCB := hidI hcb
  have HGC := hidI hgc
  have HY3 := hidI hy3
  have HB3 := hidI (HB2.out.trans (hb.mono HB2.out.size))
  clear hgc hcb hb hx3 hy3 HT2 HX2 HY2 HB2 HC2
  go_wp2_with fail
  have hr3 := block_setCell (o := 2) (.slice (some ⟨gc, 0, none⟩) cs.length (cs.length + 2)) (block_setCell (o := 1) (.int .i64 mem) (block_setCell (o := 0) (.slice (some ⟨vg, 0, none⟩) l.length (l.length + 2)) (block_other (a := ⟨w.heap.size, 2, none⟩) (u := .slice (some ⟨gc, 0, none⟩) cs.length (cs.length + 2)) HY3.out (by simp only; omega))))
  have hset : ∀ g, w.heap.size + 2 ≤ g → ((((w3.setCell ⟨w.heap.size, 2, none⟩ (.slice (some ⟨gc, 0, none⟩) cs.length (cs.length + 2))).setCell ⟨w.heap.size + 1, 0, none⟩ (.slice (some ⟨vg, 0, none⟩) l.length (l.length + 2))).setCell ⟨w.heap.size + 1, 1, none⟩ (.int .i64 mem)).setCell ⟨w.heap.size + 1, 2, none⟩ (.slice (some ⟨gc, 0, none⟩) cs.length (cs.length + 2))).heap[g]? = w3.heap[g]? := fun g hg =>
    (((Below.heap_setCell _ _ _ _ (by simp only; omega)).trans (Below.heap_setCell _ _ _ _ (by simp only; omega))).trans (Below.heap_setCell _ _ _ _ (by simp only; omega))).trans (Below.heap_setCell _ _ _ _ (by simp only; omega))
  refine bodyPost_ret (v := .agg #[.slice (some ⟨vg, 0, none⟩) l.length (l.length + 2), .int .i64 mem, .slice (some ⟨gc, 0, none⟩) cs.length (cs.length + 2)]) ?_ rfl ⟨_, tl, gc, rfl, ⟨?_, by have := HGC.out; have := HS2.out; omega, (hset gc (by have := HGC.out; have := HS2.out; omega)).trans HCB.out⟩, (((HB3.out.setCell (Nat.le_refl _) _).setCell (by simp) _).setCell (by simp) _).setCell (by simp) _⟩
  · have c0 := cell_of_block (o := 0) hr3 rfl
    have c1 := cell_of_block (o := 1) hr3 rfl
    have c2 := cell_of_block (o := 2) hr3 rfl
    simp [results, Tryz.results7, go_sem, c0, c1, c2]
  · obtain ⟨g, a0, a1, h1, h2, h3, h4, h5⟩ := HT3.out
    exact ⟨g, a0, a1, h1, by omega, h3, fun p hp => by
      obtain ⟨q, q1, q2, q3⟩ := h4 p hp
      exact ⟨q, by omega, q2, (hset q q1).trans q3⟩, (hset g h2).trans h5⟩

set_option maxRecDepth 100000 in
set_option maxHeartbeats 2000000 in
theorem leftImage_true {base : Nat} {ca cca : Option Addr} {ccap ccca : Nat} {l tl : List (Value × List OpD)} {cs : List (Int × Int)} {mem : Int} {v : Value} {gc : Nat} (ht : TwImg w base l cs v tl gc) (h : CodeAt w (.slice ca l.length ccap) l) (hc : RdT encCell w 2 (.slice cca cs.length ccca) cs) (hl : l.length ≤ 262144) (hr : ∀ p ∈ l, p.2.length ≤ 262144) (hcl : cs.length ≤ 262144) :
    Calls Tryz.prog 11 #[.agg #[v, .int .i64 mem, .slice (some ⟨gc, 0, none⟩) cs.length (cs.length + 2)], .agg #[.slice ca l.length ccap, .int .i64 mem, .slice cca cs.length ccca]] w fun e w' => e = .returned (.bool true) ∧ Below w.heap.size w w' := by
  obtain ⟨vg, va0, va1, hv, -⟩ := id ht.code
  rw [List.length_map] at hv
  subst hv
  have hb0 : Below w.heap.size w ((w.alloc (.cells #[.slice (some ⟨vg, 0, none⟩) l.length (l.length + 2), .int .i64 mem, .slice (some ⟨gc, 0, none⟩) cs.length (cs.length + 2)] 25)).alloc (.cells #[.slice ca l.length ccap, .int .i64 mem, .slice cca cs.length ccca] 25)) := ((Below.refl _ _).alloc (Nat.le_refl _) _).alloc (by simp) _
  have hx0 := block_alloc (o := .cells #[.slice ca l.length ccap, .int .i64 mem, .slice cca cs.length ccca] 25) (block_new w (.cells #[.slice (some ⟨vg, 0, none⟩) l.length (l.length + 2), .int .i64 mem, .slice (some ⟨gc, 0, none⟩) cs.length (cs.length + 2)] 25))
  have hy0 := block_new2 w (.cells #[.slice (some ⟨vg, 0, none⟩) l.length (l.length + 2), .int .i64 mem, .slice (some ⟨gc, 0, none⟩) cs.length (cs.length + 2)] 25) (.cells #[.slice ca l.length ccap, .int .i64 mem, .slice cca cs.length ccca] 25)
  have HT0 := hidI (ht.below hb0)
  have H0 := hidI (h.below hb0)
  have HC0 := hidI (Rd.below hc hb0)
  have HB0 := hidI hb0
  have HX0 := hidI hx0
  have HY0 := hidI hy0
  have HR := hidI hr
  clear ht h hc hb0 hx0 hy0 hr
  have hmm : (mem == mem) = true := by simp
  go_enter Tryz.func11, Tryz.ntmps11
  go_wp2_with fail
  refine (leftOpRows_true HT0.out.code H0.out hl HR.out).mono ?_
  rintro e w1 ⟨rfl, hb⟩
  have hx1 := blk hb HX0.out
  have hy1 := blk hb HY0.out
  have d2 : w1.cell? ⟨w.heap.size, 2, none⟩ = some (.slice (some ⟨gc, 0, none⟩) cs.length (cs.length + 2)) := cell_of_block hx1 rfl
  have e2 : w1.cell? ⟨w.heap.size + 1, 2, none⟩ = some (.slice cca cs.length ccca) := cell_of_block hy1 rfl
  have HG1 := hidI (blk hb HT0.out.cells)
  have HC1 := hidI (Rd.below HC0.out hb)
  have HB1 := hidI (bnext HB0.out hb)
  clear hb hx1 hy1 hmm
  go_wp2_with fail
  refine (leftCells_true HG1.out HC1.out hcl).mono ?_
  rintro e w2 ⟨rfl, hb⟩
  have HB2 := hidI (bnext HB1.out hb)
  clear hb
  go_wp2_with fail
  go_ret
  exact ⟨rfl, HB2.out⟩
end Go.Proofs.YthmmbldhbdnfpaaGreatDoor

/- Part of the proof: TwinRows, CellsS, SameImg -/
import Derived.Test.YtgodmogkhgilmaaGreatDoorP36
import Derived.Test.YtgodmogkhgilmaaGreatDoorP31
import Derived.ProofKit
import Derived.Deep.CutRange
namespace Go.Proofs.YtgodmogkhgilmaaGreatDoor
open Go.RowKit
set_option linter.unusedVariables false
set_option linter.unusedSimpArgs false
set_option maxHeartbeats 2000000
set_option maxRecDepth 100000
section
variable {w w' : World}
theorem set1T (A R : List Value) (a x : Value) (k : Nat) (h : A.length = k) : (A ++ a :: R).toArray.setIfInBounds k x = (A ++ x :: R).toArray := by
  subst h
  simp [List.setIfInBounds_toArray, List.set_append]
def txMark (n : Int) (a : Option Addr) : Value := .slice a (1 + n % 40).toNat (1 + n % 40).toNat
theorem mod40x (n : Int) : 0 ≤ n % 40 ∧ n % 40 < 40 := ⟨Int.emod_nonneg _ (by decide), Int.emod_lt_of_pos _ (by decide)⟩
theorem markTxRow_any (w : World) (n : Int) (h0 : 0 ≤ n) (h1 : n ≤ 1000000) : Calls Tryz.prog 18 #[.int .i64 n] w fun e w' => ∃ a, e = .returned (txMark n a) ∧ Below w.heap.size w w' := by
  obtain ⟨hm0, hm1⟩ := mod40x n
  obtain ⟨i0, hi, hz0, hz1, hz2⟩ := info_parts twInfoTxOp
  have e0 : Int.tmod n 40 = n % 40 := Int.tmod_eq_emod_of_nonneg h0
  unfold txMark
  obtain ⟨L, hL⟩ : ∃ L : Nat, (1 + n % 40).toNat = L := ⟨_, rfl⟩
  have hL2 : (L : Int) = 1 + n % 40 := by omega
  rw [hL]
  clear hL
  go_enter Tryz.func18, Tryz.ntmps18
  go_wp2_with (at_make; refine wpList_make_s _ rfl _ _ 71 rfl 88 i0 _ 4 _ Tryz.underlying71 hi hz0 hz1 rfl rfl (by decide) _ _ _ _ L L rfl rfl ?b0 ?b1 ?b2 ?b3 ?b4 ?_)
  case b0 => exact hL2.symm
  case b1 => exact hL2.symm
  case b2 => exact Nat.le_refl _
  case b3 => rw [hz2]; omega
  case b4 => unfold maxLen; omega
  intro w1 hg1 hs1 hb1
  have HB1 := hidI hb1
  clear hg1 hs1 hb1 hi hz0 hz1 hz2
  go_wp2_with fail
  go_ret
  exact ⟨_, rfl, HB1.out⟩
theorem isTxRow_any (w : World) (n : Int) (a : Option Addr) (h0 : 0 ≤ n) (h1 : n ≤ 1000000) : Calls Tryz.prog 22 #[txMark n a, .int .i64 n] w fun e w' => e = .returned (.bool true) ∧ Below w.heap.size w w' := by
  obtain ⟨hm0, hm1⟩ := mod40x n
  have e0 : Int.tmod n 40 = n % 40 := Int.tmod_eq_emod_of_nonneg h0
  unfold txMark
  obtain ⟨L, hL⟩ : ∃ L : Nat, (1 + n % 40).toNat = L := ⟨_, rfl⟩
  have hL2 : (L : Int) = 1 + n % 40 := by omega
  rw [hL]
  clear hL
  go_enter Tryz.func22, Tryz.ntmps22
  go_wp2_with fail
  go_ret
  exact ⟨rfl, Below.refl _ _⟩
def TwTx (w : World) (base : Nat) (p : Value × List Tx) : Prop :=
  ∃ g, base ≤ g ∧ p.1 = .slice (some ⟨g, 0, none⟩) p.2.length (p.2.length + 2) ∧ w.heap[g]? = some (.cells ((p.2 ++ [tmarkTxOp p.2.length, tmarkTxOp (p.2.length + 1)]).flatMap encTxD).toArray 88 (0, 0))
theorem TwTx.keep {base : Nat} {p : Value × List Tx} (h : TwTx w base p) (hk : ∀ g, base ≤ g → g < w.heap.size → w'.heap[g]? = w.heap[g]?) : TwTx w' base p := by
  obtain ⟨g, h1, h2, h3⟩ := h
  exact ⟨g, h1, h2, (hk g h1 (lt_of_block h3)).trans h3⟩
theorem TwTx.keepN {base : Nat} {p : Value × List Tx} (h : TwTx w base p) (hk : ∀ g, base ≤ g → p.1.ownBlock = some g → g < w.heap.size → w'.heap[g]? = w.heap[g]?) : TwTx w' base p := by
  obtain ⟨g, h1, h2, h3⟩ := h
  exact ⟨g, h1, h2, (hk g h1 (by rw [h2]; rfl) (lt_of_block h3)).trans h3⟩
theorem TwTx.below {base : Nat} {p : Value × List Tx} (h : TwTx w base p) (hb : Below w.heap.size w w') : TwTx w' base p := h.keep fun g _ hl => hb.block g hl
theorem TwTx.rd {base : Nat} {p : Value × List Tx} (h : TwTx w base p) : RdT encTxD w 4 p.1 p.2 := by
  obtain ⟨g, h1, h2, h3⟩ := h
  rw [h2]
  exact headTxOps h3 (by omega)
def TwTxs (w : World) (base : Nat) (l : List (List Tx)) (v : Value) (tl : List (Value × List Tx)) : Prop :=
  ∃ g a0 a1, v = .slice (some ⟨g, 0, none⟩) l.length (l.length + 2) ∧ base ≤ g ∧ tl.map (·.2) = l ∧ (∀ p ∈ tl, TwTx w base p) ∧
    w.heap[g]? = some (.cells (tl.flatMap encR ++ [txMark l.length a0, txMark (l.length + 1) a1]).toArray 71 (0, 0))
theorem TwTxs.below {base : Nat} {l : List (List Tx)} {v : Value} {tl : List (Value × List Tx)} (h : TwTxs w base l v tl) (hb : Below w.heap.size w w') : TwTxs w' base l v tl := by
  obtain ⟨g, a0, a1, h1, h2, h3, h4, h5⟩ := h
  exact ⟨g, a0, a1, h1, h2, h3, fun p hp => (h4 p hp).below hb, blk hb h5⟩
theorem TwTxs.rows {base : Nat} {l : List (Value × List Tx)} {v : Value} {tl : List (Value × List Tx)} (h : TwTxs w base (l.map (·.2)) v tl) : ∃ g, v = .slice (some ⟨g, 0, none⟩) tl.length (tl.length + 2) ∧ base ≤ g ∧ RowsAt w (.slice (some ⟨g, 0, none⟩) tl.length (tl.length + 2)) tl := by
  obtain ⟨g, a0, a1, h1, h2, h3, h4, h5⟩ := h
  have hl : (l.map (·.2)).length = tl.length := by rw [← h3]; simp
  refine ⟨g, by rw [h1, hl], h2, ⟨⟨flat_len encR_len tl, _, _, rfl, by omega, fun _ => ⟨g, 0, rfl, lt_of_block h5, fun j u hj => ?_⟩⟩, fun p hp => (h4 p hp).rd⟩⟩
  rw [Nat.zero_add]
  refine cell_of_block h5 ?_
  have hlt := (List.getElem?_eq_some_iff.1 hj).1
  simp only [List.getElem?_toArray]
  rw [List.getElem?_append_left hlt]
  exact hj
theorem txRowInfo : (Tryz.prog.info? 71).map (fun i => (i.zero, i.size, i.bytes)) = some (some (.slice none 0 0), 1, 24) := by kernel_rfl
theorem encR_flat (tl : List (Value × List Tx)) : tl.flatMap encR = tl.map (·.1) := by
  induction tl with
  | nil => rfl
  | cons p r ih => rw [List.flatMap_cons, ih]; rfl
theorem twinTxRows_any {ao : Option Addr} {ca : Nat} {l : List (Value × List Tx)} (h : RowsAt w (.slice ao l.length ca) l) (hm : l.length ≤ 262144) (hr : ∀ p ∈ l, p.2.length ≤ 262144) :
    Calls Tryz.prog 6 #[.slice ao l.length ca] w fun e w' => ∃ v tl, e = .returned v ∧ TwTxs w' w.heap.size (l.map (·.2)) v tl ∧ Below w.heap.size w w' := by
  obtain ⟨i0, hi, hz0, hz1, hz2⟩ := info_parts txRowInfo
  have H := hidI h
  have HR := hidI hr
  clear h hr
  go_enter Tryz.func6, Tryz.ntmps6
  go_wp2_with (at_make; refine wpList_make_s _ rfl _ _ 25 rfl 71 i0 _ 1 [.slice none 0 0] Tryz.underlying25 hi hz0 hz1 rfl rfl (by decide) _ _ _ _ l.length (l.length + 2) rfl rfl rfl ?b0 ?b1 ?b2 ?b3 ?_)
  case b0 => omega
  case b1 => omega
  case b2 => rw [hz2]; omega
  case b3 => unfold maxLen; omega
  intro w1 hg1 hs1 hb1
  have HG1 := hidI hg1
  have HS1 := hidI hs1
  have HB1 := hidI hb1
  clear hg1 hs1 hb1 hi hz0 hz1 hz2
  go_wp2_with fail
  go_loopw [15] (fun i wr => ∃ k : Nat, k ≤ l.length ∧ i = .int .i64 (k : Int) ∧ Hid (∃ tl : List (Value × List Tx), tl.map (·.2) = (l.take k).map (·.2) ∧ (∀ p ∈ tl, TwTx wr (w.heap.size + 1) p) ∧ wr.heap[w.heap.size]? = some (.cells (tl.map (fun p => p.1) ++ List.replicate (l.length + 2 - k) (Value.slice none 0 0)).toArray 71 (0, 0))) ∧ Hid (Below w.heap.size w wr)) (fun i _ => l.length - (intOf i).toNat)
  case atStart =>
    refine ⟨0, by omega, rfl, hidI ⟨[], rfl, fun p hp => absurd hp (by simp), ?_⟩, HB1⟩
    rw [HG1.out]
    congr 3
  case round =>
    obtain ⟨k, hk, rfl, HT, HW⟩ := hrel
    by_cases hlt : k < l.length
    · obtain ⟨p, hp⟩ := some_at hlt
      obtain ⟨b1, o1, rfl, hs1, hc1⟩ := RdT.at encR_len (Rd.below H.out.rows HW.out) hp
      have x0 := hc1 0 _ rfl
      obtain ⟨pa, pc, hpv⟩ := (H.out.each p (List.mem_of_getElem? hp)).shape
      rw [Nat.mul_one, Nat.add_zero, hpv] at x0
      have hrow := Rd.below (H.out.each p (List.mem_of_getElem? hp)) HW.out
      rw [hpv] at hrow
      obtain ⟨tl, ht1, ht2, ht3⟩ := HT.out
      have HP := hidI hp
      have HROW := hidI hrow
      have HPL := hidI (HR.out p (List.mem_of_getElem? hp))
      have HT1 := hidI ht1
      have HT2 := hidI ht2
      have HT3 := hidI ht3
      clear hc1 hs1 hp hpv hrow ht1 ht2 ht3 HT
      go_wp2_with fail
      refine (twinTxOps_any HROW.out (by have := HPL.out; omega)).mono ?_
      rintro e w2 ⟨g, hg, rfl, hblk, hb⟩
      have ht3 := blk hb HT3.out
      have htl : tl.length = k := by have := congrArg List.length HT1.out; simp at this; omega
      obtain ⟨R, hR⟩ : ∃ R, List.replicate (l.length + 2 - k) (Value.slice none 0 0) = Value.slice none 0 0 :: R ∧ R = List.replicate (l.length + 2 - (k + 1)) (Value.slice none 0 0) := by
        refine ⟨_, ?_, rfl⟩
        rw [show l.length + 2 - k = (l.length + 2 - (k + 1)) + 1 by omega, List.replicate_succ]
      rw [hR.1] at ht3
      have d0 : w2.cell? ⟨w.heap.size, k, none⟩ = some (.slice none 0 0) := cell_of_block ht3 (by rw [List.getElem?_toArray, List.getElem?_append_right (by simp; omega)]; simp [htl])
      have f0 := free_of_block (o := k) ht3
      have HT3' := hidI ht3
      have HRR := hidI hR.2
      have HTL := hidI htl
      have HG := hidI hg
      have HBK := hidI hblk
      have HB := hidI hb
      have HB2 := hidI (HW.out.trans (hb.mono HW.out.size))
      have HWS := hidI (lt_of_block HT3.out)
      clear hg hblk hb ht3 hR htl HT3
      go_wp2_with fail
      refine ⟨⟨k + 1, by omega, by go_num, hidI ⟨tl ++ [(.slice (some ⟨g, 0, none⟩) p.2.length (p.2.length + 2), p.2)], ?_, fun q hq => ?_, ?_⟩, hidI (HB2.out.setCell (Nat.le_refl _) _)⟩, by simp [intOf]; omega⟩
      · rw [List.map_append, HT1.out, take_snoc HP.out, List.map_append]; rfl
      · have hne : ∀ b, w.heap.size + 1 ≤ b → (w2.setCell ⟨w.heap.size, k, none⟩ (.slice (some ⟨g, 0, none⟩) p.2.length (p.2.length + 2))).heap[b]? = w2.heap[b]? := fun b hb => Below.heap_setCell _ _ _ _ (by simp only; omega)
        rcases List.mem_append.1 hq with hq | hq
        · exact ((HT2.out q hq).below HB.out).keep fun b hb _ => hne b hb
        · rw [List.mem_singleton.1 hq]
          exact ⟨g, by have := HG.out; have := HWS.out; omega, rfl, (hne g (by have := HG.out; have := HWS.out; omega)).trans HBK.out⟩
      · have := block_setCell (o := k) (.slice (some ⟨g, 0, none⟩) p.2.length (p.2.length + 2)) HT3'.out
        rw [this, ← HRR.out]
        congr 2
        have hl : (tl.map (·.1)).length = k := by rw [List.length_map]; exact HTL.out
        rw [set1T _ _ _ _ k hl]
        simp
    · obtain rfl : k = l.length := by omega
      obtain ⟨tl, ht1, ht2, ht3⟩ := HT.out
      rw [List.take_length] at ht1
      rw [show l.length + 2 - l.length = 2 from by omega] at ht3
      have htl : tl.length = l.length := by have := congrArg List.length ht1; simpa using this
      have HT1 := hidI ht1
      have HT2 := hidI ht2
      have HT3 := hidI ht3
      have HTL := hidI htl
      obtain ⟨w3, rfl⟩ : ∃ x, x = wr := ⟨_, rfl⟩
      clear ht1 ht2 ht3 htl HT
      go_wp2_with fail
      go_loopw [6] (fun i wr => ∃ (k : Nat) (m0 m1 : Value), k ≤ 2 ∧ i = .int .i64 ((l.length + k : Nat) : Int) ∧ Hid ((0 < k → ∃ a, m0 = txMark l.length a) ∧ (1 < k → ∃ a, m1 = txMark (l.length + 1) a) ∧ wr.heap[w.heap.size]? = some (.cells (tl.map (·.1) ++ [m0, m1]).toArray 71 (0, 0)) ∧ (k ≤ 1 → m1 = .slice none 0 0) ∧ (k = 0 → m0 = .slice none 0 0)) ∧ Hid (∀ p ∈ tl, TwTx wr (w.heap.size + 1) p) ∧ Hid (Below w.heap.size w wr)) (fun i _ => l.length + 2 - (intOf i).toNat)
      case atStart => exact ⟨0, .slice none 0 0, .slice none 0 0, by omega, rfl, hidI ⟨by omega, by omega, by simpa using HT3.out, fun _ => rfl, fun _ => rfl⟩, HT2, HW⟩
      case round =>
        obtain ⟨k, m0, m1, hk, rfl, HM, HRW, HWW⟩ := hrel
        by_cases h0 : k < 2
        · obtain ⟨hm0, hm1, hblk, hn1, hn0⟩ := HM.out
          have hz : (tl.map (·.1) ++ [m0, m1])[l.length + k]? = some (.slice none 0 0) := by
            rw [List.getElem?_append_right (by rw [List.length_map, HTL.out]; omega), List.length_map, HTL.out, show l.length + k - l.length = k from by omega]
            rcases (by omega : k = 0 ∨ k = 1) with rfl | rfl
            · simp [hn0 rfl]
            · simp [hn1 (by omega)]
          have d0 : wr.cell? ⟨w.heap.size, l.length + k, none⟩ = some (.slice none 0 0) := cell_of_block hblk (by rw [List.getElem?_toArray]; exact hz)
          have f0 := free_of_block (o := l.length + k) hblk
          have HBK := hidI hblk
          have HZ := hidI hz
          clear hm0 hm1 hblk hn1 hn0 hz
          go_wp2_with fail
          refine (markTxRow_any _ ((l.length + k : Nat) : Int) (by omega) (by omega)).mono ?_
          rintro e w4 ⟨a, rfl, hb⟩
          have hbk := blk hb HBK.out
          clear d0 f0
          have d0 : w4.cell? ⟨w.heap.size, l.length + k, none⟩ = some (.slice none 0 0) := cell_of_block hbk (by rw [List.getElem?_toArray]; exact HZ.out)
          have f0 := free_of_block (o := l.length + k) hbk
          have HBK4 := hidI hbk
          have HB := hidI hb
          obtain ⟨ma, mn, hmv⟩ : ∃ ma mn, txMark ((l.length + k : Nat) : Int) a = .slice ma mn mn := ⟨_, _, rfl⟩
          have HMV := hidI hmv
          rw [hmv]
          clear hb hbk hmv
          go_wp2_with fail
          have hset := block_setCell (o := l.length + k) (.slice ma mn mn) HBK4.out
          have hne : ∀ b, w.heap.size + 1 ≤ b → (w4.setCell ⟨w.heap.size, l.length + k, none⟩ (.slice ma mn mn)).heap[b]? = w4.heap[b]? := fun b hb => Below.heap_setCell _ _ _ _ (by simp only; omega)
          have hrows : ∀ p ∈ tl, TwTx (w4.setCell ⟨w.heap.size, l.length + k, none⟩ (.slice ma mn mn)) (w.heap.size + 1) p := fun p hp => ((HRW.out p hp).below HB.out).keep fun b hb _ => hne b hb
          have hbb : Below w.heap.size w (w4.setCell ⟨w.heap.size, l.length + k, none⟩ (.slice ma mn mn)) := (HWW.out.trans (HB.out.mono HWW.out.size)).setCell (Nat.le_refl _) _
          rcases (by omega : k = 0 ∨ k = 1) with rfl | rfl
          · refine ⟨⟨1, .slice ma mn mn, m1, by omega, by go_num, hidI ⟨fun _ => ⟨a, ?_⟩, by omega, ?_, fun _ => HM.out.2.2.2.1 (by omega), by omega⟩, hidI hrows, hidI hbb⟩, by (simp [intOf]; try omega)⟩
            · rw [← HMV.out]; rfl
            · rw [hset]
              congr 2
              rw [set1T _ _ _ _ (l.length + 0) (by simp [HTL.out])]
          · refine ⟨⟨2, m0, .slice ma mn mn, by omega, by go_num, hidI ⟨fun _ => HM.out.1 (by omega), fun _ => ⟨a, ?_⟩, ?_, by omega, by omega⟩, hidI hrows, hidI hbb⟩, by (simp [intOf]; try omega)⟩
            · rw [← HMV.out]; rfl
            · rw [hset]
              congr 2
              rw [show tl.map (·.1) ++ [m0, m1] = (tl.map (·.1) ++ [m0]) ++ m1 :: [] from by simp, set1T _ _ _ _ (l.length + 1) (by simp [HTL.out])]
              simp
        · obtain rfl : k = 2 := by omega
          obtain ⟨hm0, hm1, hblk, -, -⟩ := HM.out
          obtain ⟨a0, rfl⟩ := hm0 (by omega)
          obtain ⟨a1, rfl⟩ := hm1 (by omega)
          have HBK := hidI hblk
          clear hm0 hm1 hblk HM
          go_wp2_with fail
          go_ret
          refine ⟨_, tl, rfl, ⟨w.heap.size, a0, a1, ?_, Nat.le_refl _, HT1.out, fun p hp => ?_, ?_⟩, HWW.out⟩
          · show Value.slice (some ⟨w.heap.size, 0, none⟩) l.length (l.length + 2) = _
            rw [List.length_map]
          · obtain ⟨g, h1, h2, h3⟩ := HRW.out p hp
            exact ⟨g, by omega, h2, h3⟩
          · rw [encR_flat, List.length_map]
            exact HBK.out
theorem leftTxRows_true {base : Nat} {bo : Option Addr} {cb : Nat} {v : Value} {l tl : List (Value × List Tx)} (ht : TwTxs w base (l.map (·.2)) v tl) (hb : RowsAt w (.slice bo l.length cb) l) (hm : l.length ≤ 262144) (hr : ∀ p ∈ l, p.2.length ≤ 262144) :
    Calls Tryz.prog 8 #[v, .slice bo l.length cb] w fun e w' => e = .returned (.bool true) ∧ Below w.heap.size w w' := by
  obtain ⟨g, a0, a1, rfl, hg, hs, hrow, hblk⟩ := ht
  rw [List.length_map] at hblk ⊢
  have hlen : tl.length = l.length := by have := congrArg List.length hs; simpa using this
  have HB := hidI hb
  have HR := hidI hr
  have HS := hidI hs
  have HROW := hidI hrow
  have HBK := hidI hblk
  have HLEN := hidI hlen
  clear hb hr hs hrow hblk hlen hg
  go_enter Tryz.func8, Tryz.ntmps8
  go_wp2_with fail
  go_loopw [15] (fun i wr => ∃ k : Nat, k ≤ l.length ∧ i = .int .i64 (k : Int) ∧ Hid (Below w.heap.size w wr)) (fun i _ => l.length - (intOf i).toNat)
  case atStart => exact ⟨0, by omega, rfl, hidI (Below.refl _ _)⟩
  case round =>
    obtain ⟨k, hk, rfl, HW⟩ := hrel
    by_cases hlt : k < l.length
    · obtain ⟨p, hp⟩ := some_at hlt
      obtain ⟨q, hq⟩ := some_at (l := tl) (k := k) (by rw [HLEN.out]; exact hlt)
      have hpq : q.2 = p.2 := by
        have h1 := congrArg (fun x => x[k]?) HS.out
        simp only [List.getElem?_map, hp, hq, Option.map_some, Option.some.injEq] at h1
        exact h1
      obtain ⟨b1, o1, rfl, hs1, hc1⟩ := RdT.at encR_len (Rd.below HB.out.rows HW.out) hp
      obtain ⟨pa, pc, hpv⟩ := (HB.out.each p (List.mem_of_getElem? hp)).shape
      have hrd := HB.out.each p (List.mem_of_getElem? hp)
      rw [hpv] at hrd
      obtain ⟨gq, hgq, hqv, hbq⟩ := HROW.out q (List.mem_of_getElem? hq)
      rw [hpq] at hqv hbq
      have x0 : ∀ t, (ext wr t).cell? ⟨b1, o1 + k, none⟩ = some (.slice pa p.2.length pc) := fun t => ext_cell (by have := hc1 0 _ rfl; rw [Nat.mul_one, Nat.add_zero, hpv] at this; exact this) t
      have y0 : ∀ t, (ext wr t).cell? ⟨g, k, none⟩ = some (.slice (some ⟨gq, 0, none⟩) p.2.length (p.2.length + 2)) := fun t => ext_cell (cell_of_block (blk HW.out HBK.out) (by
        rw [List.getElem?_toArray, List.getElem?_append_left (by rw [flat_len encR_len]; have := HLEN.out; omega)]
        have := flat_at encR_len tl hq 0 _ rfl
        rw [Nat.mul_one, Nat.add_zero, hqv] at this
        exact this)) t
      have HRD := hidI (fun t => Rd.below (Rd.below hrd HW.out) (ext_below wr t))
      have HBQ := hidI (fun t => ext_block (blk HW.out hbq) t)
      have HPL := hidI (HR.out p (List.mem_of_getElem? hp))
      clear hp hq hpq hs1 hc1 hpv hrd hgq hqv hbq
      go_wp2_with fail
      refine wp_region_grow (by kernel_rfl) (by kernel_rfl) ?_
      repeat (go_big_quiet_step ((first | (go_at_call 21; exact grow_of (leftTxOps_true (HBQ.out _) (HRD.out _) (by have := HPL.out; omega))))))
      refine wpQuiet_nil ?_
      intro wU hb
      have HU := hidI (HW.out.trans (hb.mono HW.out.size))
      clear hb
      go_wp2_with fail
      exact ⟨⟨k + 1, by omega, by go_num, HU⟩, by simp [intOf]; omega⟩
    · obtain rfl : k = l.length := by omega
      obtain ⟨w3, rfl⟩ : ∃ x, x = wr := ⟨_, rfl⟩
      go_wp2_with fail
      go_loopw [7] (fun i wr => ∃ k : Nat, k ≤ 2 ∧ i = .int .i64 ((l.length + k : Nat) : Int) ∧ Hid (Below w.heap.size w wr)) (fun i _ => l.length + 2 - (intOf i).toNat)
      case atStart => exact ⟨0, by omega, rfl, HW⟩
      case round =>
        obtain ⟨k, hk, rfl, HWW⟩ := hrel
        by_cases h0 : k < 2
        · obtain ⟨a, ha⟩ : ∃ a, (tl.flatMap encR ++ [txMark (l.length : Int) a0, txMark ((l.length : Int) + 1) a1])[l.length + k]? = some (txMark ((l.length + k : Nat) : Int) a) := by
            have hl9 : (tl.flatMap encR).length = l.length := by rw [flat_len encR_len, HLEN.out]; omega
            rw [List.getElem?_append_right (by omega), hl9, show l.length + k - l.length = k from by omega]
            rcases (by omega : k = 0 ∨ k = 1) with rfl | rfl
            · exact ⟨a0, by simp⟩
            · exact ⟨a1, by simp⟩
          obtain ⟨ma, mn, hmv⟩ : ∃ ma mn, txMark ((l.length + k : Nat) : Int) a = .slice ma mn mn := ⟨_, _, rfl⟩
          have d0 : wr.cell? ⟨g, l.length + k, none⟩ = some (.slice ma mn mn) := by rw [← hmv]; exact cell_of_block (blk HWW.out HBK.out) (by rw [List.getElem?_toArray]; exact ha)
          have HMV := hidI hmv
          clear ha hmv
          go_wp2_with fail
          refine (show Calls Tryz.prog 22 #[.slice ma mn mn, .int .i64 ((l.length + k : Nat) : Int)] _ (fun e w' => e = .returned (.bool true) ∧ Below _ _ w') from by
            rw [← HMV.out]; exact isTxRow_any _ ((l.length + k : Nat) : Int) a (by omega) (by omega)).mono ?_
          rintro e w4 ⟨rfl, hb⟩
          have HB4 := hidI (HWW.out.trans (hb.mono HWW.out.size))
          clear hb
          go_wp2_with fail
          exact ⟨⟨k + 1, by omega, by go_num, HB4⟩, by simp [intOf]; omega⟩
        · obtain rfl : k = 2 := by omega
          go_wp2_with fail
          go_ret
          exact ⟨rfl, HWW.out⟩
end
theorem sameCells_true {w : World} {ao bo : Option Addr} {ca cb : Nat} {l : List (Int × Int)} (ha : RdT encCell w 2 (.slice ao l.length ca) l) (hb : RdT encCell w 2 (.slice bo l.length cb) l) (hm : l.length ≤ 9223372036854775807) :
    Calls Tryz.prog 24 #[.slice ao l.length ca, .slice bo l.length cb] w fun e w' => e = .returned (.bool true) ∧ Below w.heap.size w w' := by
  have HA := hidI ha
  have HB := hidI hb
  clear ha hb
  go_enter Tryz.func24, Tryz.ntmps24
  go_wp2
  go_loopw [13] (fun i wr => ∃ k n : Nat, k ≤ l.length ∧ i = .int .i64 k ∧ wr = w.drewN n) (fun i _ => l.length - (intOf i).toNat)
  case atStart => exact ⟨0, 0, Nat.zero_le _, rfl, rfl⟩
  case round =>
    obtain ⟨k, n, hk, rfl, rfl⟩ := hrel
    by_cases hlt : k < l.length
    · obtain ⟨x, hx⟩ := some_at hlt
      obtain ⟨b1, o1, rfl, hs1, hc1⟩ := HA.out.at encCell_len hx
      obtain ⟨b2, o2, rfl, hs2, hc2⟩ := HB.out.at encCell_len hx
      have x0 := hc1 0 _ rfl
      have x1 := hc1 1 _ rfl
      have y0 := hc2 0 _ rfl
      have y1 := hc2 1 _ rfl
      simp only [Nat.add_zero] at x0 y0
      clear hc1 hc2 hx hs1 hs2
      go_wp2_with fail
      go_quiet (fail)
      go_wp2
      exact ⟨⟨k + 1, _, by omega, by go_num, rfl⟩, by simp [intOf]; omega⟩
    · obtain rfl : k = l.length := by omega
      go_wp2
      go_ret
      exact ⟨rfl, below_drewN (Below.refl _ _) n⟩
section
variable {w w' : World}
theorem sameOps_true {w : World} {ao bo : Option Addr} {ca cb : Nat} {l : List OpD} (ha : RdT encOp w 6 (.slice ao l.length ca) l) (hb : RdT encOp w 6 (.slice bo l.length cb) l) (hm : l.length ≤ 9223372036854775807) :
    Calls Tryz.prog 124 #[.slice ao l.length ca, .slice bo l.length cb] w fun e w' => e = .returned (.bool true) ∧ Below w.heap.size w w' := by
  have HA := hidI ha
  have HB := hidI hb
  clear ha hb
  go_enter Tryz.func124, Tryz.ntmps124
  go_wp2
  go_loopw [13] (fun i wr => ∃ k n : Nat, k ≤ l.length ∧ i = .int .i64 k ∧ wr = w.drewN n) (fun i _ => l.length - (intOf i).toNat)
  case atStart => exact ⟨0, 0, Nat.zero_le _, rfl, rfl⟩
  case round =>
    obtain ⟨k, n, hk, rfl, rfl⟩ := hrel
    by_cases hlt : k < l.length
    · obtain ⟨x, hx⟩ := some_at hlt
      obtain ⟨b1, o1, rfl, hs1, hc1⟩ := HA.out.at encOp_len hx
      obtain ⟨b2, o2, rfl, hs2, hc2⟩ := HB.out.at encOp_len hx
      have x0 := hc1 0 _ rfl
      have y0 := hc2 0 _ rfl
      have x1 := hc1 1 _ rfl
      have y1 := hc2 1 _ rfl
      have x2 := hc1 2 _ rfl
      have y2 := hc2 2 _ rfl
      have x3 := hc1 3 _ rfl
      have y3 := hc2 3 _ rfl
      have x4 := hc1 4 _ rfl
      have y4 := hc2 4 _ rfl
      have x5 := hc1 5 _ rfl
      have y5 := hc2 5 _ rfl
      simp only [Nat.add_zero] at x0 y0
      clear hc1 hc2 hx hs1 hs2
      go_wp2_with fail
      go_quiet (fail)
      go_wp2
      exact ⟨⟨k + 1, _, by omega, by go_num, rfl⟩, by simp [intOf]; omega⟩
    · obtain rfl : k = l.length := by omega
      go_wp2
      go_ret
      exact ⟨rfl, below_drewN (Below.refl _ _) n⟩
theorem sameOpRows_true {ao bo : Option Addr} {ca cb : Nat} {l m : List (Value × List OpD)} (ha : CodeAt w (.slice ao l.length ca) l) (hb : CodeAt w (.slice bo m.length cb) m) (he : l.map (·.2) = m.map (·.2)) (hm : l.length ≤ 262144) (hr : ∀ p ∈ l, p.2.length ≤ 262144) :
    Calls Tryz.prog 23 #[.slice ao l.length ca, .slice bo m.length cb] w fun e w' => e = .returned (.bool true) ∧ Below w.heap.size w w' := by
  have hlen : m.length = l.length := by have := congrArg List.length he; simpa using this.symm
  rw [hlen] at hb ⊢
  have HA := hidI ha
  have HB := hidI hb
  have HR := hidI hr
  have HE := hidI he
  have HL := hidI hlen
  clear ha hb hr he hlen
  go_enter Tryz.func23, Tryz.ntmps23
  go_wp2_with fail
  go_loopw [13] (fun i wr => ∃ k : Nat, k ≤ l.length ∧ i = .int .i64 (k : Int) ∧ Hid (Below w.heap.size w wr)) (fun i _ => l.length - (intOf i).toNat)
  case atStart => exact ⟨0, by omega, rfl, hidI (Below.refl _ _)⟩
  case round =>
    obtain ⟨k, hk, rfl, HW⟩ := hrel
    by_cases hlt : k < l.length
    · obtain ⟨p, hp⟩ := some_at hlt
      obtain ⟨q, hq⟩ := some_at (l := m) (k := k) (by rw [HL.out]; exact hlt)
      have hpq : q.2 = p.2 := by
        have h1 := congrArg (fun x => x[k]?) HE.out
        simp only [List.getElem?_map, hp, hq, Option.map_some, Option.some.injEq] at h1
        exact h1.symm
      obtain ⟨b1, o1, rfl, hs1, hc1⟩ := RdT.at encC_len (Rd.below HA.out.rows HW.out) hp
      have hbr : RdT encC w 1 (.slice bo m.length cb) m := by have := HB.out.rows; rw [← HL.out] at this; exact this
      obtain ⟨b2, o2, rfl, hs2, hc2⟩ := RdT.at encC_len (Rd.below hbr HW.out) hq
      obtain ⟨pa, pc, hpv⟩ := (HA.out.each p (List.mem_of_getElem? hp)).shape
      obtain ⟨qa, qc, hqv⟩ := (HB.out.each q (List.mem_of_getElem? hq)).shape
      have hrd := HA.out.each p (List.mem_of_getElem? hp)
      have hrq := HB.out.each q (List.mem_of_getElem? hq)
      rw [hpv] at hrd
      rw [hqv] at hrq
      rw [hpq] at hqv hrq
      have x0 : ∀ t, (ext wr t).cell? ⟨b1, o1 + k, none⟩ = some (.slice pa p.2.length pc) := fun t => ext_cell (by have := hc1 0 _ rfl; rw [Nat.mul_one, Nat.add_zero, hpv] at this; exact this) t
      have y0 : ∀ t, (ext wr t).cell? ⟨b2, o2 + k, none⟩ = some (.slice qa p.2.length qc) := fun t => ext_cell (by have := hc2 0 _ rfl; rw [Nat.mul_one, Nat.add_zero, hqv] at this; exact this) t
      have HRD := hidI (fun t => Rd.below (Rd.below hrd HW.out) (ext_below wr t))
      have HRQ := hidI (fun t => Rd.below (Rd.below hrq HW.out) (ext_below wr t))
      have HPL := hidI (HR.out p (List.mem_of_getElem? hp))
      clear hp hq hpq hs1 hc1 hs2 hc2 hpv hqv hrd hrq hbr
      go_wp2_with fail
      refine wp_region_grow (by kernel_rfl) (by kernel_rfl) ?_
      repeat (go_big_quiet_step ((first | (go_at_call 124; exact grow_of (sameOps_true (HRD.out _) (HRQ.out _) (by have := HPL.out; omega))))))
      refine wpQuiet_nil ?_
      intro wU hb
      have HU := hidI (HW.out.trans (hb.mono HW.out.size))
      clear hb
      go_wp2_with fail
      exact ⟨⟨k + 1, by omega, by go_num, HU⟩, by simp [intOf]; omega⟩
    · obtain rfl : k = l.length := by omega
      go_wp2_with fail
      go_ret
      exact ⟨rfl, HW.out⟩
theorem sameImage_true {ao bo : Option Addr} {ca cb : Nat} {mem : Int} {l m : List (Value × List OpD)} (ha : CodeAt w (.slice ao l.length ca) l) (hb : CodeAt w (.slice bo m.length cb) m) (he : l.map (·.2) = m.map (·.2)) (hm : l.length ≤ 262144) (hr : ∀ p ∈ l, p.2.length ≤ 262144) :
    Calls Tryz.prog 9 #[.agg #[.slice ao l.length ca, .int .i64 mem, .slice none 0 0], .agg #[.slice bo m.length cb, .int .i64 mem, .slice none 0 0]] w fun e w' => e = .returned (.bool true) ∧ Below w.heap.size w w' := by
  have hb2 : Below w.heap.size w ((w.alloc (.cells #[.slice ao l.length ca, .int .i64 mem, .slice none 0 0] 30)).alloc (.cells #[.slice bo m.length cb, .int .i64 mem, .slice none 0 0] 30)) := ((Below.refl _ _).alloc (Nat.le_refl _) _).alloc (by rw [World.size_alloc]; omega) _
  have hx := block_alloc (o := (.cells #[.slice bo m.length cb, .int .i64 mem, .slice none 0 0] 30)) (block_new w (.cells #[.slice ao l.length ca, .int .i64 mem, .slice none 0 0] 30))
  have hy := block_new2 w (.cells #[.slice ao l.length ca, .int .i64 mem, .slice none 0 0] 30) (.cells #[.slice bo m.length cb, .int .i64 mem, .slice none 0 0] 30)
  have HX := hidI hx
  have HY := hidI hy
  have HB2 := hidI hb2
  have HS := hidI (sameOpRows_true (ha.below hb2) (hb.below hb2) he hm hr)
  clear ha hb he hr hb2 hx hy
  go_enter Tryz.func9, Tryz.ntmps9
  go_upto_region 1 with fail
  generalize (w.alloc (.cells #[.slice ao l.length ca, .int .i64 mem, .slice none 0 0] 30)).alloc (.cells #[.slice bo m.length cb, .int .i64 mem, .slice none 0 0] 30) = w2 at HX HY HB2 HS ⊢
  have x0 : w2.cell? ⟨w.heap.size, 0, none⟩ = some (.slice ao l.length ca) := cell_of_block HX.out rfl
  have x1 : w2.cell? ⟨w.heap.size, 1, none⟩ = some (.int .i64 mem) := cell_of_block HX.out rfl
  have y0 : w2.cell? ⟨w.heap.size + 1, 0, none⟩ = some (.slice bo m.length cb) := cell_of_block HY.out rfl
  have y1 : w2.cell? ⟨w.heap.size + 1, 1, none⟩ = some (.int .i64 mem) := cell_of_block HY.out rfl
  go_wp2_with fail
  refine HS.out.mono ?_
  rintro e w3 ⟨rfl, hb3⟩
  have x2 : w3.cell? ⟨w.heap.size, 2, none⟩ = some (.slice none 0 0) := cell_of_block (blk hb3 HX.out) rfl
  have y2 : w3.cell? ⟨w.heap.size + 1, 2, none⟩ = some (.slice none 0 0) := cell_of_block (blk hb3 HY.out) rfl
  have HB3 := hidI (HB2.out.trans (hb3.mono HB2.out.size))
  clear x0 x1 y0 y1 hb3
  go_wp2_with fail
  refine (sameCells_true (l := []) (Rd.nil _ _) (Rd.nil _ _) (by simp)).mono ?_
  rintro e w4 ⟨rfl, hb4⟩
  have HB4 := hidI (HB3.out.trans (hb4.mono HB3.out.size))
  clear hb4
  go_wp2_with fail
  go_ret
  exact ⟨rfl, HB4.out⟩
end
end Go.Proofs.YtgodmogkhgilmaaGreatDoor

/- The document's Encode; turnstilelaw01.Beyond of one length; the walk of IsaEncodes. -/
import Derived.Test.YtbfghkhfiflibaaIsaF
import Derived.Test.YtbfghkhfiflibaaIsaG
namespace Go.Proofs.Ytbfghkhfiflibaa
open Go.RowKit

set_option maxHeartbeats 2000000 in
theorem beyond1 {w : World} {b : Nat} {t : TypeId} (n : Nat) (hb : w.heap[b]? = some (.cells #[.int .i64 (n : Int)] t (0, 0))) (hn : n < 2 ^ 62) :
    Calls Try.prog 9 #[.slice (some ⟨b, 0, none⟩) 1 1] w fun e w' => e = .returned (.bool (decide (262144 < n))) ∧ Below w.heap.size w w' := by
  have x0 : w.cell? ⟨b, 0, none⟩ = some (.int .i64 (n : Int)) := cell_of_block hb rfl
  clear hb
  by_cases h : n ≤ 262144
  · have h1 : ¬ ((n : Int) > 262144) := by omega
    have h2 : ¬ ((n : Int) < 0) := by omega
    rw [show decide (262144 < n) = false from by simp; omega]
    go_enter Try.func9, Try.ntmps9
    go_wp2_with fail
    go_loopw [4, 3] (fun i acc wr => wr = w ∧ (i = .int .i64 0 ∧ acc = .int .i64 0 ∨ i = .int .i64 1 ∧ acc = .int .i64 (n : Int))) (fun i _ _ => (1 - intOf i).toNat)
    case atStart => exact ⟨rfl, .inl ⟨rfl, rfl⟩⟩
    case round =>
      obtain ⟨rfl, ⟨rfl, rfl⟩ | ⟨rfl, rfl⟩⟩ := hrel
      · go_wp2
        exact ⟨⟨trivial, .inr ⟨rfl, rfl⟩⟩, by simp [intOf]⟩
      · go_wp2
        go_ret
        exact ⟨rfl, Below.refl _ _⟩
  · have h1 : ((n : Int) > 262144) := by omega
    have h2 : ¬ ((n : Int) < 0) := by omega
    rw [show decide (262144 < n) = true from by simp; omega]
    go_enter Try.func9, Try.ntmps9
    go_wp2_with fail
    go_loopw [4, 3] (fun i acc wr => wr = w ∧ i = .int .i64 0 ∧ acc = .int .i64 0) (fun i _ _ => (1 - intOf i).toNat)
    case atStart => exact ⟨rfl, rfl, rfl⟩
    case round =>
      obtain ⟨rfl, rfl, rfl⟩ := hrel
      go_wp2
      go_ret
      exact ⟨rfl, Below.refl _ _⟩

theorem bytesS_pos {o : OpD} {f : Fm} (h : formS o.kind = some f) : 0 < (bytesS o).length := by
  unfold bytesS
  rw [h]
  simp [bytesF]

theorem str_of_row {w : World} {base : Nat} {bo : Option Addr} {bc : Nat} {bs : List UInt8} (h : w.ownsRow base 5 1 (.slice bo bs.length bc) bs.length (enc8 bs)) :
    (convert 49 9 (.slice bo bs.length bc)).run Try.prog w = .ok (.string ⟨bs.toArray⟩) w := by
  rcases h.2 with ⟨hv, h0⟩ | ⟨g, c, cur, hv, hb, hgg, _, _, _, ht⟩
  · simp only [Value.slice.injEq] at hv
    obtain ⟨rfl, -, rfl⟩ := hv
    obtain rfl := List.length_eq_zero_iff.1 h0
    kernel_rfl
  · simp only [Value.slice.injEq] at hv
    obtain ⟨rfl, -, rfl⟩ := hv
    refine run_convert_bytes_back w _ _ 5 ⟨g, 0, none⟩ bc bs Try.underlying49 Try.underlying5 Try.underlying9 (fun j hj => ?_)
    obtain ⟨g', cur', hg', _, hh, _, hat⟩ := ownsRow_some h (by omega)
    simp only [Option.some.injEq, Addr.mk.injEq, and_true] at hg'
    subst hg'
    have h1 : cur'[j]? = some (.int .u8 (bs[j].toNat : Int)) := hat j _ (by simp [enc8, hj])
    have h2 : (⟨g, 0, none⟩ : Addr).add j = ⟨g, j, none⟩ := by unfold Addr.add; split <;> simp_all
    rw [h2]
    exact cell_of_block hh h1

set_option maxRecDepth 100000 in
set_option maxHeartbeats 4000000 in
theorem rencode_any {w : World} {ao : Option Addr} {cap : Nat} {l : List OpD} (h : RdT encOp w 6 (.slice ao l.length cap) l) (hwf : ∀ o ∈ l, wfOp o) (hl : l.length ≤ 262144) :
    Calls Try.prog 12 #[.slice ao l.length cap] w fun e w' => e = .returned (encV l) ∧ Below w.heap.size w w' := by
  have HRD := hidI h
  clear h
  have hl1 : ¬ ((l.length : Int) > 262144) := by omega
  obtain ⟨i0, hi, hz0, hz1, hz2⟩ := info_parts u8Info
  go_enter Try.func12, Try.ntmps12
  go_wp2_with fail
  go_loopw [5, 4] (fun i b wr => ∃ (k : Nat) (bs : List UInt8), k ≤ l.length ∧ bs = (l.take k).flatMap bytesS ∧ i = .int .i64 (k : Int) ∧ (l.take k).all checkS = true ∧ Below w.heap.size w wr ∧ wr.ownsRow w.heap.size 5 1 b bs.length (enc8 bs)) (fun i _ _ => ((l.length : Int) - intOf i).toNat)
  case atStart => exact ⟨0, [], Nat.zero_le _, rfl, rfl, rfl, Below.refl _ _, World.ownsRow_nil _ _ _ _⟩
  case round =>
    obtain ⟨k, bs, hk, hbs, rfl, hall, hbel, hown⟩ := hrel
    have hbl : bs.length ≤ 3407872 := by have := flat_bytes_len (l.take k); rw [← hbs] at this; simp at this; omega
    obtain ⟨bo, bc, rfl⟩ := ownsRow_shape hown
    have HBS := hidI hbs
    have HALL := hidI hall
    have HBEL := hidI hbel
    have HOWN := hidI hown
    clear hall hbel hown hbs
    by_cases hkl : k < l.length
    · obtain ⟨o, ho⟩ := some_at hkl
      obtain ⟨g, off, rfl, hg, hc⟩ := RdT.at encOp_len (Rd.below HRD.out HBEL.out) ho
      have x0 := hc 0 _ rfl
      have x1 := hc 1 _ rfl
      have x2 := hc 2 _ rfl
      have x3 := hc 3 _ rfl
      have x4 := hc 4 _ rfl
      have x5 := hc 5 _ rfl
      simp only [Nat.add_zero] at x0
      have HO := hidI ho
      have HW := hidI (hwf o (List.mem_of_getElem? ho))
      clear hc hg ho
      go_wp2_with fail
      refine (rcheck_any _ o HW.out).mono ?_
      rintro e w1 ⟨rfl, hb1⟩
      have HB1 := hidI hb1
      cases hck : checkS o with
      | false =>
        have HCK := hidI hck
        clear hck hb1
        unfold codeV
        go_wp2_with fail
        go_ret2
        exact ⟨by rw [encV_no HO.out HCK.out]; rfl, HBEL.out.trans (HB1.out.mono HBEL.out.size)⟩
      | true =>
        have HCK := hidI hck
        have y0 := cell_later hb1 x0
        have y1 := cell_later hb1 x1
        have y2 := cell_later hb1 x2
        have y3 := cell_later hb1 x3
        have y4 := cell_later hb1 x4
        have y5 := cell_later hb1 x5
        clear hck hb1 x0 x1 x2 x3 x4 x5
        obtain ⟨f, hf⟩ := check_form HCK.out
        have HF := hidI hf
        have hpos := bytesS_pos hf
        have hble := bytesS_len o
        clear hf
        unfold codeV
        go_wp2_with fail
        refine (bytes_any _ o HW.out HF.out).mono ?_
        rintro e w2 ⟨bo2, bc2, rfl, hrow2, hb2⟩
        obtain ⟨g2, cur2, rfl, hg2, hh2, hn2, hat2⟩ := ownsRow_some hrow2 hpos
        obtain ⟨nb, hnb⟩ : ∃ x, x = (bytesS o).length := ⟨_, rfl⟩
        rw [← hnb] at hrow2 hpos hble ⊢
        have HNB := hidI hnb
        have HH2 := hidI hh2
        have HAT2 := hidI hat2
        have HB2 := hidI (show Below w.heap.size w w2 from HBEL.out.trans ((HB1.out.trans (hb2.mono HB1.out.size)).mono HBEL.out.size))
        have HR2 := hidI (ownsRow_chg HOWN.out (Chg.of_below (S := fun _ => False) (HB1.out.trans (hb2.mono HB1.out.size))) (fun _ _ => id))
        clear hnb hrow2 hh2 hat2 hb2 hn2 y0 y1 y2 y3 y4 y5
        obtain ⟨nn, hnn⟩ : ∃ x, x = bs.length := ⟨_, rfl⟩
        have HR3 := HR2.out
        rw [← hnn] at HR3 hbl ⊢
        have HR4 := hidI HR3
        have HNN := hidI hnn
        clear HR3 hnn
        go_wp2_with (at_builtin; refine wpList_append_d _ rfl _ _ 49 rfl w.heap.size 5 i0 _ 1 1 Try.underlying49 hi hz0 hz1 hz2 rfl (by decide) _ _ _ rfl HR4.out ⟨g2, 0, none⟩ nb bc2 (enc8 (bytesS o)) rfl ?c0 ?c1 one_enc8 ?c3 ?c4 ?c5 ?_)
        case c0 => rw [enc8_len, HNB.out]; omega
        case c1 =>
          intro j u hj
          have h2 : (⟨g2, 0, none⟩ : Addr).add j = ⟨g2, j, none⟩ := by unfold Addr.add; split <;> simp_all
          rw [h2]
          exact cell_of_block HH2.out (HAT2.out j u hj)
        case c3 => unfold maxLen; omega
        case c4 => omega
        case c5 => exact HB2.out.size
        intro ao3 cp3 w3 hown3 hfrom3 hgr3
        have hc3 : Chg (fun j => (Value.slice bo nn bc).ownBlock = some j) w2 w3 := (Chg.refl _ w2).grown hgr3 (fun k hk => .inl hk)
        have HB3 := hidI (HB2.out.trans (hc3.to_below HB2.out.size (fun k hk => (HR4.out.lt k hk).1)))
        obtain ⟨B, hB⟩ : ∃ x, x = bs ++ bytesS o := ⟨_, rfl⟩
        have hlenB : B.length = nn + nb := by rw [hB, List.length_append, HNN.out, HNB.out]
        have hown4 : w3.ownsRow w.heap.size 5 1 (.slice ao3 (nn + nb) cp3) (nn + nb) (enc8 B) := by rw [hB, enc8_app]; exact hown3
        have hBB : B = (l.take (k + 1)).flatMap bytesS := by
          rw [take_snoc HO.out, List.flatMap_append, ← HBS.out, hB]
          simp
        have HO4 := hidI hown4
        have HBB := hidI hBB
        have HLB := hidI hlenB
        clear hown3 hfrom3 hgr3 hc3 hB hlenB hown4 hBB
        go_wp2_with fail
        exact ⟨⟨k + 1, B, by omega, HBB.out, by go_num, all_take HO.out HALL.out HCK.out, HB3.out, by rw [HLB.out]; exact HO4.out⟩, by simp [intOf]; omega⟩
    · obtain rfl : k = l.length := by omega
      have hbs := HBS.out
      rw [List.take_length] at hbs
      have hcv := str_of_row HOWN.out
      have HBS2 := hidI hbs
      clear hbs
      go_wp2_with fail
      go_ret2
      refine ⟨?_, HBEL.out⟩
      have hall := HALL.out
      rw [List.take_length] at hall
      unfold encV
      rw [if_pos hall, ← HBS2.out]
      rfl

theorem encV_tuple (l : List OpD) : ∃ s c, encV l = .tuple #[.string s, .int .i64 c] := by
  unfold encV
  split <;> exact ⟨_, _, rfl⟩

set_option maxHeartbeats 4000000 in
theorem encodes_any {w : World} {ao : Option Addr} {cap : Nat} {l : List OpD} (h : RdT encOp w 6 (.slice ao l.length cap) l) (hwf : ∀ o ∈ l, wfOp o) (hl : l.length < 2 ^ 62) :
    Calls Try.prog 4 #[.slice ao l.length cap] w fun e w' => e = .returned (.bool true) ∧ Below w.heap.size w w' := by
  have HRD := hidI h
  have HWF := hidI hwf
  clear h hwf
  go_enter Try.func4, Try.ntmps4
  go_wp2_with fail
  refine (beyond1 l.length (block_new w _) hl).mono ?_
  rintro e w1 ⟨rfl, hb1⟩
  have HB1 := hidI (bnextA (Below.refl _ _) hb1)
  clear hb1
  have fin : ∀ {w2 w3 w4 : World}, Below w2.heap.size w2 w3 → Below w3.heap.size w3 w4 → Below w2.heap.size w2 w4 := fun h1 h2 => h1.trans (h2.mono h1.size)
  by_cases hB : 262144 < l.length
  · have eB : decide (262144 < l.length) = true := by simpa using hB
    rw [eB]
    go_wp2_with fail
    go_ret
    exact ⟨rfl, HB1.out⟩
  have eB : decide (262144 < l.length) = false := by simp; omega
  rw [eB]
  have hl2 : l.length ≤ 262144 := by omega
  go_wp2_with fail
  refine (twinOps_any (Rd.below HRD.out HB1.out) (by omega)).mono ?_
  rintro e w2 ⟨g, hg, rfl, hgb, hb2⟩
  have HB2 := hidI (fin HB1.out hb2)
  have HG := hidI hgb
  clear hgb hb2
  go_wp2_with fail
  refine (encode_any (head_ops HG.out (by omega)) HWF.out hl2).mono ?_
  rintro e w3 ⟨rfl, hb3⟩
  obtain ⟨s, c, hs⟩ := encV_tuple l
  rw [hs]
  have HS := hidI hs
  have HB3' := hidI hb3
  have HB3 := hidI (fin HB2.out hb3)
  clear hb3 hs
  go_wp2_with fail
  refine (rencode_any (Rd.below HRD.out HB3.out) HWF.out hl2).mono ?_
  rintro e w4 ⟨rfl, hb4⟩
  rw [HS.out]
  have HG4 := hidI (blk hb4 (blk HB3'.out HG.out))
  have HB4 := hidI (fin HB3.out hb4)
  clear hb4
  go_wp2_with fail
  refine (leftOps_true HG4.out (Rd.below HRD.out HB4.out) (by omega)).mono ?_
  rintro e w5 ⟨rfl, hb5⟩
  have HB5 := hidI (fin HB4.out hb5)
  clear hb5
  go_wp2_with fail
  refine (alive_any _).mono ?_
  rintro e w6 ⟨rfl, hb6⟩
  have HB6 := hidI (fin HB5.out hb6)
  clear hb6
  go_wp2_with fail
  go_ret
  exact ⟨rfl, HB6.out⟩

end Go.Proofs.Ytbfghkhfiflibaa

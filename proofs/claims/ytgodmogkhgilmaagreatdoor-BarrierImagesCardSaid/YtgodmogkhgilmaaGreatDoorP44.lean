/- Part of the proof: Images -/
import Derived.Test.YtgodmogkhgilmaaGreatDoorP35
import Derived.Test.YtgodmogkhgilmaaGreatDoorP37
import Derived.Test.YtgodmogkhgilmaaGreatDoorP42
import Derived.Test.YtgodmogkhgilmaaGreatDoorP43
namespace Go.Proofs.YtgodmogkhgilmaaGreatDoor
open Go.RowKit
set_option linter.unusedVariables false
set_option linter.unusedSimpArgs false
set_option maxHeartbeats 8000000
set_option maxRecDepth 100000
variable {w w' : World}
theorem not_own {base sz n g : Nat} {E T : TypeId} {iv : Value} {xs : List Value} {c : Array Value} {f : Nat × Nat} (ho : w.ownsRow base E sz iv n xs) (hg : w.heap[g]? = some (.cells c T f)) (hne : T ≠ E) : iv.ownBlock ≠ some g := by
  intro e
  rcases ho.2 with ⟨hv, -⟩ | ⟨g', cap, cur, hv, hb, hg', -⟩
  · rw [hv] at e; simp [Value.ownBlock] at e
  · rw [hv] at e
    simp only [Value.ownBlock, Option.some.injEq] at e
    subst e
    rw [hg] at hg'
    simp only [Option.some.injEq, Obj.cells.injEq] at hg'
    exact hne hg'.2.1
theorem TwTxs.chg {base base2 n : Nat} {l : List (List Tx)} {v iv : Value} {tl : List (Value × List Tx)} {xs : List Value} (h : TwTxs w base l v tl) (ho : w.ownsRow base2 25 1 iv n xs) (hc : Chg (fun k => iv.ownBlock = some k) w w') : TwTxs w' base l v tl := by
  obtain ⟨g, a0, a1, h1, h2, h3, h4, h5⟩ := h
  refine ⟨g, a0, a1, h1, h2, h3, fun p hp => ?_, chgblk hc h5 (not_own ho h5 (by decide))⟩
  obtain ⟨q, q1, q2, q3⟩ := h4 p hp
  exact ⟨q, q1, q2, chgblk hc q3 (not_own ho q3 (by decide))⟩
theorem txTotal_snd {a b : List (Value × List Tx)} (h : a.map Prod.snd = b.map Prod.snd) : txTotal a = txTotal b := by
  have e : ∀ l : List (Value × List Tx), txTotal l = ((l.map Prod.snd).map (fun r => r.length + 1)).sum := fun l => by unfold txTotal; rw [List.map_map]; rfl
  rw [e, e, h]
theorem encR2_flat (xs : Ths) : xs.map Prod.fst = xs.flatMap encR2 := by
  induction xs with
  | nil => rfl
  | cons p r ih => rw [List.map_cons, List.flatMap_cons, ih]; rfl
structure CopyT (w : World) (base : Nat) (ts xs : Ths) (iv : Value) : Prop where
  own : w.ownsRow base 25 1 iv xs.length (xs.map Prod.fst)
  each : ∀ (i : Nat) x t, xs[i]? = some x → ts[i]? = some t → TwTxs w base (t.2.map Prod.snd) x.1 x.2
theorem CopyT.below {base : Nat} {ts xs : Ths} {iv : Value} (h : CopyT w base ts xs iv) (hb : Below w.heap.size w w') : CopyT w' base ts xs iv :=
  ⟨ownRow_keep h.own fun g _ hl => hb.block g hl, fun i x t hx ht => (h.each i x t hx ht).below hb⟩
theorem CopyT.inn {base : Nat} {ts xs : Ths} {io : Option Addr} {ic : Nat} (h : CopyT w base ts xs (.slice io xs.length ic)) (hl : xs.length = ts.length) (hw : ∀ p ∈ ts, ∀ q ∈ p.2, ∀ o ∈ q.2, TxWf o) (ht : ∀ p ∈ ts, txTotal p.2 ≤ 262144) :
    ThsAt w (.slice io xs.length ic) xs ∧ (∀ p ∈ xs, ∀ q ∈ p.2, ∀ o ∈ q.2, TxWf o) ∧ xs.map rowsOf = ts.map rowsOf := by
  have hx : ∀ p ∈ xs, ∃ t ∈ ts, TwTxs w base (t.2.map Prod.snd) p.1 p.2 := fun p hp => by
    obtain ⟨i, hi⟩ := List.getElem?_of_mem hp
    obtain ⟨t, ht⟩ := some_at (l := ts) (k := i) (by rw [← hl]; exact (List.getElem?_eq_some_iff.1 hi).1)
    exact ⟨t, List.mem_of_getElem? ht, h.each i p t hi ht⟩
  have hsnd : ∀ {t p : Value × List (Value × List Tx)}, TwTxs w base (t.2.map Prod.snd) p.1 p.2 → p.2.map Prod.snd = t.2.map Prod.snd := fun h => by obtain ⟨g, a0, a1, h1, h2, h3, h4, h5⟩ := h; exact h3
  refine ⟨⟨Rd.of_own (by rw [← encR2_flat]; exact h.own), fun p hp => ?_, fun p hp => ?_⟩, fun p hp q hq o ho => ?_, ?_⟩
  · obtain ⟨t, -, htw⟩ := hx p hp
    obtain ⟨g, e, -, hr⟩ := htw.rows
    rw [e]; exact hr
  · obtain ⟨t, h1, htw⟩ := hx p hp
    rw [txTotal_snd (hsnd htw)]
    exact ht t h1
  · obtain ⟨t, h1, htw⟩ := hx p hp
    have h2 : q.2 ∈ t.2.map Prod.snd := by rw [← hsnd htw]; exact List.mem_map_of_mem hq
    obtain ⟨r, hr, e⟩ := List.mem_map.1 h2
    exact hw t h1 r hr o (by rw [e]; exact ho)
  · refine List.ext_getElem (by simpa using hl) fun i h1 h2 => ?_
    rw [List.getElem_map, List.getElem_map]
    exact hsnd (h.each i _ _ (List.getElem?_eq_getElem (by simpa using h1)) (List.getElem?_eq_getElem (by simpa using h2)))
theorem txRowsElem : (Tryz.prog.info? 25).map (fun i => (i.zero, i.size, i.bytes)) = some (some (.slice none 0 0), 1, 24) := by kernel_rfl
theorem copy_rows {ts xs : Ths} {words : Int} (h : xs.map rowsOf = ts.map rowsOf) : (∀ t ∈ xs, okRows words t.2 = true) ↔ ∀ t ∈ ts, okRows words t.2 = true := by
  have e : ∀ l : Ths, (∀ t ∈ l, okRows words t.2 = true) ↔ ∀ r ∈ l.map rowsOf, r.all (fun q => q.all (okTx words)) = true := fun l => by
    constructor
    · intro h r hr
      obtain ⟨t, ht, rfl⟩ := List.mem_map.1 hr
      have := h t ht
      unfold okRows at this
      unfold rowsOf
      rw [List.all_map]; exact this
    · intro h t ht
      have := h _ (List.mem_map_of_mem ht)
      unfold rowsOf at this
      rw [List.all_map] at this
      exact this
  rw [e, e, h]
theorem txTot_len2 {a : List (Value × List Tx)} (h : txTotal a ≤ 262144) : a.length ≤ 262144 ∧ ∀ p ∈ a, p.2.length ≤ 262144 := by
  unfold txTotal at h
  induction a with
  | nil => exact ⟨by simp, fun p hp => by cases hp⟩
  | cons q r ih =>
    rw [List.map_cons, List.sum_cons] at h
    have h1 := ih (by omega)
    have h2 : r.length ≤ (r.map fun p => p.2.length + 1).sum := by
      clear ih h h1
      induction r with
      | nil => simp
      | cons a l ih => rw [List.map_cons, List.sum_cons, List.length_cons]; omega
    refine ⟨by rw [List.length_cons]; omega, fun p hp => ?_⟩
    rcases List.mem_cons.1 hp with rfl | hp
    · omega
    · exact h1.2 p hp
theorem img_top {top cc : Nat} {co : Option Addr} {cs : List (Nat × List OpD)} (h1 : ∀ g, (Value.slice co cs.length cc).ownBlock = some g → g < top) (h2 : ∀ p ∈ cs, p.1 < top) : ∀ r ∈ cs.map opK ++ [tabK (.slice co cs.length cc) cs, celK], ∀ g, r.v.ownBlock = some g → g < top := by
  intro r hr g hg
  rcases List.mem_append.1 hr with hr | hr
  · obtain ⟨p, hp, rfl⟩ := List.mem_map.1 hr
    simp only [opK, codeV1, Value.ownBlock, Option.some.injEq] at hg
    rw [← hg]; exact h2 p hp
  · simp only [List.mem_cons, List.not_mem_nil, or_false] at hr
    rcases hr with rfl | rfl
    · exact h1 g hg
    · simp [celK, Value.ownBlock] at hg
theorem few_copy {ts xs : Ths} {words : Int} (h : xs.map rowsOf = ts.map rowsOf) (hl : xs.length = ts.length) (hf : FewS words ts) : FewS words xs := by
  refine ⟨fun t ht => ?_, hf.2.1, hf.2.2.1, by rw [hl]; exact hf.2.2.2⟩
  have h1 : rowsOf t ∈ ts.map rowsOf := by rw [← h]; exact List.mem_map_of_mem ht
  obtain ⟨u, hu, e⟩ := List.mem_map.1 h1
  have h2 := hf.1 u hu
  unfold rowsOf at e
  refine ⟨by have := congrArg List.length e; simp at this; omega, fun p hp => ?_⟩
  have h3 : p.2 ∈ u.2.map Prod.snd := by rw [e]; exact List.mem_map_of_mem hp
  obtain ⟨q, hq, e3⟩ := List.mem_map.1 h3
  rw [← e3]
  exact h2.2 q hq
theorem CopyT.snoc {base k : Nat} {ts xs : Ths} {io : Option Addr} {ic : Nat} {w3 w4 : World} {ao : Option Addr} {cp : Nat} {v : Value} {tl : List (Value × List Tx)} {t : Value × List (Value × List Tx)} (h : CopyT w base ts xs (.slice io k ic)) (hk : xs.length = k) (ht : ts[k]? = some t) (hb : Below w.heap.size w w3) (hbase : base ≤ w.heap.size)
    (htw : TwTxs w3 w.heap.size (t.2.map Prod.snd) v tl) (hown : w4.ownsRow base 25 1 (.slice ao (k + 1) cp) (k + 1) (xs.map Prod.fst ++ [v])) (hc : Chg (fun q => (Value.slice io k ic).ownBlock = some q) w3 w4) : CopyT w4 base ts (xs ++ [(v, tl)]) (.slice ao (k + 1) cp) := by
  have ho : w3.ownsRow base 25 1 (.slice io k ic) xs.length (xs.map Prod.fst) := ownRow_keep h.own fun g _ hl => hb.block g hl
  refine ⟨by rw [List.length_append, hk, List.map_append]; exact hown, fun i x u hx hu => ?_⟩
  rcases Nat.lt_or_ge i xs.length with q | q
  · rw [List.getElem?_append_left q] at hx
    exact ((h.each i x u hx hu).below hb).chg ho hc
  · have hlt := (List.getElem?_eq_some_iff.1 hx).1
    rw [List.length_append, List.length_singleton] at hlt
    obtain rfl : i = xs.length := by omega
    rw [List.getElem?_append_right (Nat.le_refl _), Nat.sub_self] at hx
    simp only [List.getElem?_cons_zero, Option.some.injEq] at hx
    subst hx
    rw [hk, ht] at hu
    cases hu
    obtain ⟨g, a0, a1, h1, h2, h3, h4, h5⟩ := htw.chg (ho) hc
    exact ⟨g, a0, a1, h1, by omega, h3, fun p hp => by obtain ⟨q, q1, q2, q3⟩ := h4 p hp; exact ⟨q, by omega, q2, q3⟩, h5⟩
theorem images_any {ta : Option Addr} {tc : Nat} {ts : Ths} (h : ThsIn w (.slice ta ts.length tc) ts) (hbig : ts.length * 24 ≤ 140737488355328) (words : Int) :
    Calls Tryz.prog 3 #[.int .i64 words, .slice ta ts.length tc] w fun e w' => e = .returned (.bool true) ∧ Below w.heap.size w w' := by
  have H := hidI h
  have HBIG := hidI hbig
  obtain ⟨i0, hi, hz0, hz1, hz2⟩ := info_parts txRowsElem
  have HI := hidI hi
  have HZ0 := hidI hz0
  have HZ1 := hidI hz1
  have HZ2 := hidI hz2
  clear h hi hz0 hz1 hz2 hbig
  go_enter Tryz.func3, Tryz.ntmps3
  go_wp2_with fail
  refine (size_any H.out).mono ?_
  rintro e w1 ⟨z, rfl, hz0, hz1, hz2, hb1⟩
  obtain ⟨z, rfl⟩ := Int.eq_ofNat_of_zero_le hz0
  have HB1 := hidI hb1
  have HZT := hidI (show z ≤ 262144 → ∀ p ∈ ts, txTotal p.2 ≤ 262144 from fun h => hz2 (by omega))
  have HZL := hidI (show z < 2 ^ 62 by omega)
  clear hz0 hz1 hz2 hb1
  go_wp2_with fail
  refine (beyond1 z (block_new w1 _) HZL.out).mono ?_
  rintro e w2 ⟨rfl, hb2⟩
  have HB2 := hidI (bnext HB1.out (bnext ((Below.refl _ _).alloc (Nat.le_refl _) _) hb2))
  clear hb2
  by_cases hbe : 262144 < z
  · rw [decide_eq_true hbe]
    clear hbe
    go_wp2_with fail
    go_ret
    exact ⟨rfl, HB2.out⟩
  rw [decide_eq_false hbe]
  have HT := hidI (HZT.out (by omega))
  clear hbe
  go_wp2_with fail
  go_loopw [5, 6] (fun iv i wr => ∃ (k : Nat) (xs : Ths) (io : Option Addr) (ic : Nat), k ≤ ts.length ∧ i = .int .i64 (k : Int) ∧ iv = .slice io k ic ∧ Hid (xs.length = k) ∧ Hid (CopyT wr w.heap.size ts xs (.slice io k ic)) ∧ Hid (Below w.heap.size w wr)) (fun _ i _ => ts.length - (intOf i).toNat)
  case atStart => exact ⟨0, [], none, 0, Nat.zero_le _, rfl, rfl, hidI rfl, hidI ⟨World.ownsRow_nil _ _ _ _, fun i x t hx => by simp at hx⟩, HB2⟩
  case round =>
    obtain ⟨k, xs, io, ic, hk, rfl, rfl, HXL, HC, HB⟩ := hrel
    have hbig := HBIG.out
    by_cases hlt : k < ts.length
    · obtain ⟨t, hx⟩ := some_at hlt
      obtain ⟨g, off, rfl, hg, hc⟩ := RdT.at encR2_len (Rd.below H.out.rows HB.out) hx
      have hrows := (H.out.each t (List.mem_of_getElem? hx)).below HB.out
      obtain ⟨ra, rc, hrv⟩ := rd_shape hrows.rows
      have d0 : wr.cell? ⟨g, off + k, none⟩ = some (.slice ra t.2.length rc) := by have := hc 0 _ rfl; rw [← hrv]; simpa [encR2] using this
      rw [hrv] at hrows
      have HR := hidI hrows
      have HX := hidI hx
      have HTL := hidI (txTot_len2 (HT.out t (List.mem_of_getElem? hx)))
      have hw1 : IntKind.i64.wrap ((k : Int) + 1) = k + 1 := IntWalk.i64_in _ (by omega)
      clear hx hc hrv hrows hg
      go_wp2_with fail
      refine (twinTxRows_any HR.out HTL.out.1 HTL.out.2).mono ?_
      rintro e w3 ⟨v, tl, rfl, htw, hb3⟩
      obtain ⟨vg, vn, vc, rfl⟩ : ∃ vg vn vc, v = .slice (some ⟨vg, 0, none⟩) vn vc := by obtain ⟨g, a0, a1, h1, -⟩ := htw; exact ⟨g, _, _, h1⟩
      have HTW := hidI htw
      have HBR := hidI hb3
      have HB3 := hidI (HB.out.trans (hb3.mono HB.out.size))
      have HSZ := hidI (show w.heap.size ≤ w3.heap.size from HB3.out.size)
      have HO3 := hidI (show w3.ownsRow w.heap.size 25 1 (.slice io k ic) k (xs.map Prod.fst) from by have h9 := ownRow_keep HC.out.own fun g _ hl => hb3.block g hl; rw [HXL.out] at h9; exact h9)
      clear htw hb3 d0
      go_wp2_with (at_builtin; refine Hid.out ?_)
      refine wpList_append_d _ rfl _ _ 22 rfl w.heap.size 25 i0 _ 1 24 Tryz.underlying22 HI.out HZ0.out HZ1.out HZ2.out rfl (by decide) (.slice io k ic) k _ (by simp [Act.eval]) (ownsRow_chg HO3.out ((Chg.refl (fun _ => False) w3).alloc _) (fun _ _ => id)) ⟨w3.heap.size, 0, none⟩ 1 1 [.slice (some ⟨vg, 0, none⟩) vn vc] (by simp [Act.eval]) rfl ?c1 ?c2 ?c3 ?c4 ?c5 ?_
      case c1 => exact news_at (block_new _ _)
      case c2 => intro u hu; simp at hu; subst hu; rfl
      case c3 => unfold maxLen; omega
      case c4 => omega
      case c5 => have := HSZ.out; simp; omega
      intro ao cp w4 hown hfrom hgrown
      have hc4 : Chg (fun q => (Value.slice io k ic).ownBlock = some q) w3 w4 := ((Chg.refl (fun q => (Value.slice io k ic).ownBlock = some q) w3).alloc _).grown hgrown (fun q hq => .inl hq)
      have HC4 := hidI (HC.out.snoc HXL.out HX.out HBR.out HB.out.size HTW.out hown hc4)
      have HB4 := hidI (Chg.below HB3.out HB3.out.size hc4 (fun q hq => (HO3.out.lt q hq).1))
      have HXL4 := hidI (show (xs ++ [(Value.slice (some ⟨vg, 0, none⟩) vn vc, tl)]).length = k + 1 by rw [List.length_append, HXL.out]; rfl)
      clear hown hfrom hgrown hc4
      go_wp2_with fail
      exact ⟨⟨k + 1, _, ao, cp, by omega, by go_num, rfl, HXL4, HC4, HB4⟩, by simp [intOf]; omega⟩
    · obtain rfl : k = ts.length := by omega
      have hC := HC.out
      rw [← HXL.out] at hC
      have hin := hC.inn HXL.out H.out.wf HT.out
      have HIN := hidI hin
      clear hin hC hlt
      have hin := HIN.out.1
      rw [HXL.out] at hin
      have HI0 := hidI (show Calls Tryz.prog 7 #[.int .i64 words, .slice io ts.length ic] wr (ImgQP words xs wr) from by
        have h9 := imgQ_any HIN.out.1 HIN.out.2.1 (by rw [HXL.out]; omega) words
        rw [HXL.out] at h9
        exact h9)
      clear hin
      go_wp2_with fail
      refine HI0.out.mono ?_
      rintro e w3 ⟨ao, an, ac, mem, en, rfl, hq, hb3⟩
      obtain ⟨w4, hw4⟩ : ∃ w4, w4 = w3.alloc (.cells #[.slice ao an ac, .int .i64 mem, .slice none 0 0] 30) := ⟨_, rfl⟩
      have hb4 : Below w3.heap.size w3 w4 := by rw [hw4]; exact (Below.refl _ _).alloc (Nat.le_refl _) _
      have HA4 := hidI (show w4.heap[w3.heap.size]? = some (.cells #[.slice ao an ac, .int .i64 mem, .slice none 0 0] 30 (0, 0)) from by
        rw [hw4]; exact block_new _ _)
      have hbr4 := hb3.trans (hb4.mono hb3.size)
      have HB4 := hidI (bnext HB.out hbr4)
      have HQ4 := hidI (hq.below hb4)
      have HC4 := hidI (HC.out.below hbr4)
      have HT4 := hidI (HIN.out.1.below hbr4)
      have HW4 := hidI hw4
      have HAL := hidI (show wr.heap.size ≤ w3.heap.size ∧ w3.heap.size < w4.heap.size from ⟨hb3.size, lt_of_block HA4.out⟩)
      have HI4 := hidI (show Calls Tryz.prog 7 #[.int .i64 words, .slice io ts.length ic] w4 (ImgQP words xs w4) from by
        have h9 := imgQ_any HT4.out HIN.out.2.1 (by rw [HXL.out]; omega) words
        rw [HXL.out] at h9
        exact h9)
      clear hq hb3 hb4 hbr4 hw4 HI0 HC
      go_wp2_with fail
      rw [← HW4.out]
      clear HW4
      refine HI4.out.mono ?_
      rintro e w5 ⟨bo, bn, bc, mem', en', rfl, hq', hb5⟩
      obtain ⟨e1, e2⟩ := HQ4.out.one hq'
      subst e1 e2
      obtain ⟨w6, hw6⟩ : ∃ w6, w6 = w5.alloc (.cells #[.slice bo bn bc, .int .i64 mem, .slice none 0 0] 30) := ⟨_, rfl⟩
      have hb6 : Below w5.heap.size w5 w6 := by rw [hw6]; exact (Below.refl _ _).alloc (Nat.le_refl _) _
      have HD6 := hidI (show w6.heap[w5.heap.size]? = some (.cells #[.slice bo bn bc, .int .i64 mem, .slice none 0 0] 30 (0, 0)) from by
        rw [hw6]; exact block_new _ _)
      have hb46 := hb5.trans (hb6.mono hb5.size)
      have HB6 := hidI (bnext HB4.out hb46)
      have HA6 := hidI (blk hb46 HA4.out)
      have HQA6 := hidI (HQ4.out.below hb46)
      have HQB6 := hidI (hq'.below hb6)
      have HC6 := hidI (HC4.out.below hb46)
      have HBL := hidI (show w4.heap.size ≤ w5.heap.size from hb5.size)
      have HW6 := hidI hw6
      clear hq' hb5 hb6 hb46 hw6 HI4 HC4 HT4 HB4 HA4 HQ4
      go_wp2_with fail
      rw [← HW6.out]
      clear HW6
      go_loopw [11] (fun i w' => ∃ k : Nat, k ≤ ts.length ∧ i = .int .i64 (k : Int) ∧ Hid (Below w6.heap.size w6 w')) (fun i _ => ts.length - (intOf i).toNat)
      case atStart => exact ⟨0, Nat.zero_le _, rfl, hidI (Below.refl _ _)⟩
      case round =>
        obtain ⟨k, hk, rfl, HW⟩ := hrel
        have hbig := HBIG.out
        have hBr := bnext HB6.out HW.out
        by_cases hlt : k < ts.length
        · obtain ⟨t, hx⟩ := some_at hlt
          obtain ⟨x, hy⟩ := some_at (l := xs) (k := k) (by rw [HXL.out]; exact hlt)
          have hti := Rd.below H.out.rows hBr
          have hrin : RdT encR2 wr 1 (.slice io xs.length ic) xs := by
            have h9 := (HC6.out.below HW.out).own
            rw [← HXL.out] at h9
            exact Rd.of_own (by rw [← encR2_flat]; exact h9)
          obtain ⟨g, off, rfl, hg, hc⟩ := RdT.at encR2_len hti hx
          obtain ⟨g2, off2, rfl, hg2, hc2⟩ := RdT.at encR2_len hrin hy
          have htw := (HC6.out.each k x t hy hx).below HW.out
          obtain ⟨vg, vn, vc, hv⟩ : ∃ vg vn vc, x.1 = .slice (some ⟨vg, 0, none⟩) vn vc := by obtain ⟨g, a0, a1, h1, -⟩ := htw; exact ⟨g, _, _, h1⟩
          have hrows := (H.out.each t (List.mem_of_getElem? hx)).below hBr
          obtain ⟨ra, rc, hrv⟩ := rd_shape hrows.rows
          rw [hv] at htw
          rw [hrv] at hrows
          have x0 : ∀ t', (ext wr t').cell? ⟨g2, off2 + k, none⟩ = some (.slice (some ⟨vg, 0, none⟩) vn vc) := fun t' => ext_cell (by have := hc2 0 _ rfl; rw [← hv]; simpa [encR2] using this) t'
          have y0 : ∀ t', (ext wr t').cell? ⟨g, off + k, none⟩ = some (.slice ra t.2.length rc) := fun t' => ext_cell (by have := hc 0 _ rfl; rw [← hrv]; simpa [encR2] using this) t'
          have HTW := hidI (fun t' => htw.below (ext_below wr t'))
          have HRW := hidI (fun t' => hrows.below (ext_below wr t'))
          have HTL := hidI (txTot_len2 (HT.out t (List.mem_of_getElem? hx)))
          clear hx hy hti hrin hg hc hg2 hc2 htw hv hrows hrv hBr
          go_wp2_with fail
          refine wp_region_grow (by kernel_rfl) (by kernel_rfl) ?_
          repeat (go_big_quiet_step ((first | (go_at_call 8; exact grow_of (leftTxRows_true (HTW.out _) (HRW.out _) HTL.out.1 HTL.out.2)))))
          refine wpQuiet_nil ?_
          intro wU hb
          have HU := hidI (bnext HW.out hb)
          clear hb
          go_wp2_with fail
          exact ⟨⟨k + 1, by omega, by go_num, HU⟩, by simp [intOf]; omega⟩
        · obtain rfl : k = ts.length := by omega
          clear hlt
          obtain ⟨la, lb, hla, hlb, hca, hcb, hsn, hlm, hrm⟩ := (HQA6.out.below HW.out).codes (HQB6.out.below HW.out)
          have HSI := hidI (show Calls Tryz.prog 9 #[.agg #[.slice ao an ac, .int .i64 mem, .slice none 0 0], .agg #[.slice bo bn bc, .int .i64 mem, .slice none 0 0]] wr (fun e w' => e = .returned (.bool true) ∧ Below wr.heap.size wr w') from by
            have h9 := sameImage_true (mem := mem) (l := la) (m := lb) (by rw [hla]; exact hca) (by rw [hlb]; exact hcb) hsn hlm hrm
            rw [hla, hlb] at h9
            exact h9)
          clear hla hlb hca hcb hsn hlm hrm hBr
          have hA := blk HW.out HA6.out
          have hD := blk HW.out HD6.out
          have a0 : wr.cell? ⟨w3.heap.size, 0, none⟩ = some (.slice ao an ac) := cell_of_block hA rfl
          have a1 : wr.cell? ⟨w3.heap.size, 1, none⟩ = some (.int .i64 mem) := cell_of_block hA rfl
          have a2 : wr.cell? ⟨w3.heap.size, 2, none⟩ = some (.slice none 0 0) := cell_of_block hA rfl
          have b0 : wr.cell? ⟨w5.heap.size, 0, none⟩ = some (.slice bo bn bc) := cell_of_block hD rfl
          have b1 : wr.cell? ⟨w5.heap.size, 1, none⟩ = some (.int .i64 mem) := cell_of_block hD rfl
          have b2 : wr.cell? ⟨w5.heap.size, 2, none⟩ = some (.slice none 0 0) := cell_of_block hD rfl
          clear hA hD
          go_wp2_with fail
          refine HSI.out.mono ?_
          rintro e w7 ⟨rfl, hb7⟩
          have HB67 := hidI (bnext HW.out hb7)
          have HB7 := hidI (bnext HB6.out HB67.out)
          clear hb7 a0 a1 a2 b0 b1 b2 HSI
          have hA := blk HB67.out HA6.out
          have a0 : w7.cell? ⟨w3.heap.size, 0, none⟩ = some (.slice ao an ac) := cell_of_block hA rfl
          have a1 : w7.cell? ⟨w3.heap.size, 1, none⟩ = some (.int .i64 mem) := cell_of_block hA rfl
          clear hA
          rcases HQA6.out with ⟨rfl, rfl, rfl, rfl, h0, -, hcase, hfew⟩ | ⟨rfl, hmem, cs, rfl, hy⟩
          · have hne : (en != 0) = true := by simpa using h0
            have HCASE := hidI hcase
            have HFEW := hidI (show ¬ (FewS words ts ∧ ∀ t ∈ ts, okRows words t.2 = true) from fun ⟨h1, h2⟩ => hfew ⟨few_copy HIN.out.2.2 HXL.out h1, (copy_rows HIN.out.2.2).2 h2⟩)
            have HTA := hidI ((H.out.below HB7.out).at HT.out)
            clear h0 hcase hfew
            go_wp2_with fail
            refine (few_any HTA.out (by omega) words).mono ?_
            rintro e w8 ⟨bf, rfl, hbf, hb8⟩
            have HBF := hidI hbf
            have HB8 := hidI (bnext HB7.out hb8)
            have HTA8 := hidI (HTA.out.below hb8)
            clear hb8 hbf a0 a1
            cases bf with
            | false =>
              rcases HCASE.out with ⟨e1, q⟩ | e3
              · have he1 : en = 1 := e1
                subst he1
                by_cases hw : words < 0
                · go_wp2_with fail
                  refine (lives25 _).mono ?_
                  rintro e wz ⟨rfl, hbz⟩
                  have HBZ := hidI (bnext HB8.out hbz)
                  clear hbz
                  go_wp2_with fail
                  go_ret
                  exact ⟨rfl, HBZ.out⟩
                · have hm : ¬ ∀ t ∈ ts, okRows words t.2 = true := fun h => by
                    rcases q with q | ⟨t, ht, q⟩
                    · exact hw q
                    · rw [(copy_rows HIN.out.2.2).2 h t ht] at q; cases q
                  have HMM := hidI hm
                  clear hm q
                  go_wp2_with fail
                  refine (may_any (((H.out.below HB8.out).at HT.out)) (by omega) words).mono ?_
                  rintro e wm ⟨bm, rfl, hm, hbm⟩
                  have HBM := hidI (bnext HB8.out hbm)
                  cases bm with
                  | true => exact absurd (hm.1 rfl) HMM.out
                  | false =>
                    clear hm hbm
                    go_wp2_with fail
                    refine (lives25 _).mono ?_
                    rintro e wz ⟨rfl, hbz⟩
                    have HBZ := hidI (bnext HBM.out hbz)
                    clear hbz
                    go_wp2_with fail
                    go_ret
                    exact ⟨rfl, HBZ.out⟩
              · have he3 : en = 3 := e3
                subst he3
                go_wp2_with fail
                refine (lives25 _).mono ?_
                rintro e wz ⟨rfl, hbz⟩
                have HBZ := hidI (bnext HB8.out hbz)
                clear hbz
                go_wp2_with fail
                go_ret
                exact ⟨rfl, HBZ.out⟩
            | true =>
              go_wp2_with fail
              refine (may_any HTA8.out (by omega) words).mono ?_
              rintro e w9 ⟨bm, rfl, hm, hb9⟩
              have HB9 := hidI (bnext HB8.out hb9)
              cases bm with
              | true => exact absurd ⟨HBF.out (by trivial), hm.1 rfl⟩ HFEW.out
              | false =>
                clear hm hb9
                rcases HCASE.out with ⟨e1, q⟩ | e3
                · have he1 : en = 1 := e1
                  subst he1
                  by_cases hw : words < 0
                  · go_wp2_with fail
                    refine (lives25 _).mono ?_
                    rintro e wz ⟨rfl, hbz⟩
                    have HBZ := hidI (bnext HB9.out hbz)
                    clear hbz
                    go_wp2_with fail
                    go_ret
                    exact ⟨rfl, HBZ.out⟩
                  · have hm : ¬ ∀ t ∈ ts, okRows words t.2 = true := fun h => by
                      rcases q with q | ⟨t, ht, q⟩
                      · exact hw q
                      · rw [(copy_rows HIN.out.2.2).2 h t ht] at q; cases q
                    have HMM := hidI hm
                    clear hm q
                    go_wp2_with fail
                    refine (may_any (((H.out.below HB9.out).at HT.out)) (by omega) words).mono ?_
                    rintro e wm ⟨bm, rfl, hm, hbm⟩
                    have HBM := hidI (bnext HB9.out hbm)
                    cases bm with
                    | true => exact absurd (hm.1 rfl) HMM.out
                    | false =>
                      clear hm hbm
                      go_wp2_with fail
                      refine (lives25 _).mono ?_
                      rintro e wz ⟨rfl, hbz⟩
                      have HBZ := hidI (bnext HBM.out hbz)
                      clear hbz
                      go_wp2_with fail
                      go_ret
                      exact ⟨rfl, HBZ.out⟩
                · have he3 : en = 3 := e3
                  subst he3
                  go_wp2_with fail
                  refine (lives25 _).mono ?_
                  rintro e wz ⟨rfl, hbz⟩
                  have HBZ := hidI (bnext HB9.out hbz)
                  clear hbz
                  go_wp2_with fail
                  go_ret
                  exact ⟨rfl, HBZ.out⟩
          · rcases HQB6.out with ⟨-, -, -, -, h0, -⟩ | ⟨-, -, cs', rfl, hy'⟩
            · exact absurd rfl h0
            have hw0 : ¬ words < 0 := by have := (mkErr_words hy.plan).1; omega
            have hlen : cs.length = ts.length := by rw [hy.are.len]; exact HXL.out
            have HROWS := hidI ((copy_rows HIN.out.2.2).1 hy.rows)
            have HY := hidI hy
            have HY' := hidI hy'
            have HMEM := hidI hmem
            have HLEN := hidI hlen
            clear hy hy' hmem hlen
            have HTA := hidI ((H.out.below HB7.out).at HT.out)
            go_wp2_with fail
            refine (may_any HTA.out (by omega) words).mono ?_
            rintro e w8 ⟨bm, rfl, hm, hb8⟩
            have hbm : bm = true := hm.2 HROWS.out
            subst hbm
            have HB68 := hidI (bnext HB67.out hb8)
            clear hm hb8 a0 a1
            obtain ⟨l, hl1, hcode, hl2, hchk⟩ := (HY.out.below HB68.out).code
            have hA := blk HB68.out HA6.out
            have a0 : w8.cell? ⟨w3.heap.size, 0, none⟩ = some (.slice ao cs.length ac) := cell_of_block hA rfl
            have a1 : w8.cell? ⟨w3.heap.size, 1, none⟩ = some (.int .i64 mem) := cell_of_block hA rfl
            have a2 : w8.cell? ⟨w3.heap.size, 2, none⟩ = some (.slice none 0 0) := cell_of_block hA rfl
            have HCK := hidI (show Calls Tryz.prog 13 #[.agg #[.slice ao cs.length ac, .int .i64 mem, .slice none 0 0]] w8 (fun e w' => e = .returned (.int .i64 0) ∧ Below w8.heap.size w8 w') from by
              have h9 := rcheckM_any (w := w8) (l := l) (cs := []) (by rw [hl1]; exact hcode) (Rd.nil w8 2) mem (by have := HY.out.few; have := HY.out.are.len; omega) (by simp) (fun p hp => by
                have h1 : p.2 ∈ l.map (·.2) := List.mem_map_of_mem hp
                rw [hl2] at h1
                obtain ⟨q, hq, e⟩ := List.mem_map.1 h1
                have := HY.out.len q hq
                rw [← e]; omega)
              rw [hl1, HMEM.out, hchk] at h9
              rw [HMEM.out]
              exact h9)
            clear hl1 hcode hl2 hchk hA
            go_wp2_with fail
            refine HCK.out.mono ?_
            rintro e w9 ⟨rfl, hb9⟩
            have HB69 := hidI (bnext HB68.out hb9)
            clear hb9 a0 a1 a2 HCK
            have HB9 := hidI (bnext HB6.out HB69.out)
            have hA := block_alloc (o := (.cells zeroBook 67)) (blk HB69.out HA6.out)
            have hA9 := blk HB69.out HA6.out
            have a0 : w9.cell? ⟨w3.heap.size, 0, none⟩ = some (.slice ao cs.length ac) := cell_of_block hA9 rfl
            have a2 : w9.cell? ⟨w3.heap.size, 2, none⟩ = some (.slice none 0 0) := cell_of_block hA9 rfl
            have c0 : (w9.alloc (.cells zeroBook 67)).cell? ⟨w3.heap.size, 0, none⟩ = some (.slice ao cs.length ac) := cell_of_block hA rfl
            have c1 : (w9.alloc (.cells zeroBook 67)).cell? ⟨w3.heap.size, 1, none⟩ = some (.int .i64 mem) := cell_of_block hA rfl
            have c2 : (w9.alloc (.cells zeroBook 67)).cell? ⟨w3.heap.size, 2, none⟩ = some (.slice none 0 0) := cell_of_block hA rfl
            have q1 : (cs.length : Int) = (ts.length : Int) := by rw [HLEN.out]
            have hya := HY.out.below HB69.out
            have hyb := HY'.out.below HB69.out
            have hra := img_rows hya.own hya.cin (fun p hp => Nat.le_trans (hya.len p hp) (by decide))
            have hrb := img_rows hyb.own hyb.cin (fun p hp => Nat.le_trans (hyb.len p hp) (by decide))
            have hsz := HB.out.size
            have hal := HAL.out
            have hbl := HBL.out
            have hlo : ∀ r ∈ cs.map opK ++ [tabK (.slice ao cs.length ac) cs, celK], ∀ g, r.v.ownBlock = some g → g < w3.heap.size := fun r hr g hg => img_top hya.lt1 hya.lt2 r hr g hg
            have hhi : ∀ r ∈ cs'.map opK ++ [tabK (.slice bo cs'.length bc) cs', celK], ∀ g, r.v.ownBlock = some g → w4.heap.size ≤ g ∧ g < w5.heap.size := fun r hr g hg => ⟨(rowLt (hrb.1 r hr) hg).1, img_top hyb.lt1 hyb.lt2 r hr g hg⟩
            have hst : BkT w (w9.alloc (.cells zeroBook 67)) w9.heap.size 0 (cs.map opK ++ tabK (.slice ao cs.length ac) cs :: celK :: (cs'.map opK ++ [tabK (.slice bo cs'.length bc) cs', celK])) [(w5.heap.size, .cells #[.slice bo cs'.length bc, .int .i64 mem, .slice none 0 0] 30 (0, 0))] := by
              have e1 : cs.map opK ++ tabK (.slice ao cs.length ac) cs :: celK :: (cs'.map opK ++ [tabK (.slice bo cs'.length bc) cs', celK]) = (cs.map opK ++ [tabK (.slice ao cs.length ac) cs, celK]) ++ (cs'.map opK ++ [tabK (.slice bo cs'.length bc) cs', celK]) := by simp
              rw [e1]
              refine BkT.start HB9.out (fun r hr => ?_) (List.pairwise_append.2 ⟨hra.2, hrb.2, fun r hr s hs g hg e => ?_⟩) (fun p hp => ?_)
              · rcases List.mem_append.1 hr with hr | hr
                · exact ownsRow_mono (hra.1 r hr) hsz
                · exact ownsRow_mono (hrb.1 r hr) (by omega)
              · have := hlo r hr g hg
                have := (hhi s hs g e).1
                omega
              · rw [List.mem_singleton.1 hp]
                refine ⟨blk HB69.out HD6.out, fun r hr e => ?_⟩
                simp only at e
                rcases List.mem_append.1 hr with hr | hr
                · have := hlo r hr _ e; omega
                · have := (hhi r hr _ e).2; omega
            have HST := hidI hst
            have hy1 := zero_book
            have hy2 := zbook_size
            clear hA hA9 hya hyb hra hrb hsz hal hbl hlo hhi hst
            go_wp2_with fail
            clear hy1 hy2 a0 a2 c0 c1 c2
            refine (BkT.image (mem := mem) HST.out (by omega) (by have := HY.out.few; have := HY.out.are.len; omega) (fun p hp => Nat.le_trans (HY.out.len p hp) (by decide))).mono ?_
            rintro e w10 ⟨rfl, hs⟩
            have htb := (hs.wat _ (List.mem_singleton.2 rfl)).1
            have b0 : w10.cell? ⟨w5.heap.size, 0, none⟩ = some (.slice bo cs'.length bc) := cell_of_block htb rfl
            have b1 : w10.cell? ⟨w5.heap.size, 1, none⟩ = some (.int .i64 mem) := cell_of_block htb rfl
            have b2 : w10.cell? ⟨w5.heap.size, 2, none⟩ = some (.slice none 0 0) := cell_of_block htb rfl
            have HS1 := hidI hs
            clear hs htb HST
            go_wp2_with fail
            clear b0 b1 b2
            refine (BkT.image (mem := mem) (rows := []) HS1.out (by have := HY.out.few; have := HY.out.are.len; omega) (by have := HY'.out.few; have := HY'.out.are.len; omega) (fun p hp => Nat.le_trans (HY'.out.len p hp) (by decide))).mono ?_
            rintro e w11 ⟨rfl, hs⟩
            have HS2 := hidI hs
            clear hs HS1
            go_wp2_with fail
            refine HS2.out.done.mono ?_
            rintro e w12 ⟨rfl, hb⟩
            have HB12 := hidI hb
            clear hb HS2
            go_wp2_with fail
            refine (lives25 _).mono ?_
            rintro e wz ⟨rfl, hbz⟩
            have HBZ := hidI (bnext HB12.out hbz)
            clear hbz
            go_wp2_with fail
            go_ret
            exact ⟨rfl, HBZ.out⟩
end Go.Proofs.YtgodmogkhgilmaaGreatDoor

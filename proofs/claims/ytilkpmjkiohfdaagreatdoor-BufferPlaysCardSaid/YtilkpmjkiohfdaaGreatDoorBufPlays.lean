/- BufferPlays' walk. -/
import Derived.Test.YtilkpmjkiohfdaaGreatDoorBufPlay
import Derived.Test.YtilkpmjkiohfdaaGreatDoorCellsS
import Derived.Test.YtilkpmjkiohfdaaGreatDoorBookZ
import Derived.StillTailTactics
import Derived.Deep.RegionLawGrows
import Derived.Deep.RegionHeld3
namespace Go.Proofs.YtilkpmjkiohfdaaGreatDoor
open Go.RowKit
set_option linter.unusedVariables false
set_option linter.unusedSimpArgs false

/-- turnstilelaw19.Step: Kind, At, V -/
structure StepD where
  k : Int
  a : Int
  v : Int
def encT (s : StepD) : List Value := [.int .i64 s.k, .int .i64 s.a, .int .i64 s.v]
theorem encT_len : ∀ s, (encT s).length = 3 := fun _ => rfl

set_option maxRecDepth 100000 in
set_option maxHeartbeats 8000000 in
theorem plays_any {w : World} {ao : Option Addr} {ca : Nat} {l : List StepD} (ha : RdT encT w 3 (.slice ao l.length ca) l) (hm : l.length < 2 ^ 62) :
    Calls Tryz.prog 4 #[.slice ao l.length ca] w fun e w' => e = .returned (.bool true) ∧ Below w.heap.size w w' := by
  have hz1 := zero_book
  have hz2 := zbook_size
  have HA := hidI ha
  clear ha
  go_enter Tryz.func4, Tryz.ntmps4
  go_wp2_with fail
  refine (new_any _).mono ?_
  rintro e w1 ⟨rfl, hw1⟩
  have HW1 := hidI hw1
  have hs1 : w1.heap.size = w.heap.size + 1 := by rw [hw1]; simp
  clear hw1
  go_wp2_with fail
  refine (new_any _).mono ?_
  rintro e w2 ⟨rfl, hw2⟩
  have HW2 := hidI hw2
  have hs2 : w2.heap.size = w.heap.size + 1 + 1 := by rw [hw2]; simp [hs1]
  clear hw2
  rw [hs1]
  have hst := book_store (w2.alloc (.cells #[.slice none 0 0] 71))
  rw [World.size_alloc, hs2] at hst
  obtain ⟨hkb, hbd, hsz3⟩ := book_fresh (w2.alloc (.cells #[.slice none 0 0] 71))
  rw [World.size_alloc, hs2] at hkb hbd hsz3
  go_wp2_with fail
  clear hst hz1 hz2
  generalize ((w2.alloc (.cells #[.slice none 0 0] 71)).alloc (.cells zeroBook 60)).setCells (w.heap.size + 1 + 1 + 1) 0 zeroBook.toList = w3 at hkb hbd hsz3 ⊢
  have hb1 : Below w.heap.size w w1 := by rw [HW1.out]; exact (Below.refl _ _).alloc (Nat.le_refl _) _
  have hb2 : Below w1.heap.size w1 w2 := by rw [HW2.out]; exact (Below.refl _ _).alloc (Nat.le_refl _) _
  have hb23 : Below w2.heap.size w2 (w2.alloc (.cells #[.slice none 0 0] 71)) := (Below.refl _ _).alloc (Nat.le_refl _) _
  have hbd' : Below (w2.alloc (.cells #[.slice none 0 0] 71)).heap.size (w2.alloc (.cells #[.slice none 0 0] 71)) w3 := by rw [World.size_alloc, hs2]; exact hbd
  have hr1 : Ring w1 w.heap.size [] zeroRing 0 := by rw [HW1.out]; exact ring_new w
  have hr2 : Ring w2 (w.heap.size + 1) [] zeroRing 0 := by rw [HW2.out, ← hs1]; exact ring_new w1
  have hw : w3.heap[w.heap.size + 1 + 1]? = some (.cells #[.slice none 0 0] 71 (0, 0)) := by rw [← hs2]; exact blk hbd' (block_new w2 _)
  have HS0 : Hid (PlaySt w w3 w.heap.size (w.heap.size + 1) (w.heap.size + 1 + 1) (w.heap.size + 1 + 1 + 1) [] [] (.slice none 0 0) (.slice none 0 0) []) := hidI
    ⟨⟨Nat.le_refl _, by omega, by omega, by omega, hsz3⟩, ⟨_, _, ((hr1.below hb2).below hb23).below hbd'⟩, ⟨_, _, (hr2.below hb23).below hbd'⟩, ⟨hw, World.ownsRow_nil _ _ _ _, by omega⟩,
      ⟨zeroBook, hkb, zbook_size, zbook_at 5 (by decide) (by decide), zbook_0, fun i h0 h1 _ => zbook_at i h0 h1⟩, nilCell _ _ _, fun g hg => by simp [Value.ownBlock] at hg, fun i e he => by simp at he, bnext (bnext (bnext hb1 hb2) hb23) hbd'⟩
  clear hkb hbd hsz3 hb1 hb2 hb23 hbd' hr1 hr2 hw HW1 HW2 hs1 hs2
  go_loopw [7] (fun i wr => ∃ (k : Nat) (q : List (Int × Int)) (v hv : Value) (es : List EntCell), k ≤ l.length ∧ i = .int .i64 k ∧ es.length ≤ k ∧ es.length ≤ 40 ∧ Hid (PlaySt w wr w.heap.size (w.heap.size + 1) (w.heap.size + 1 + 1) (w.heap.size + 1 + 1 + 1) q q v hv es)) (fun i _ => l.length - (intOf i).toNat)
  case atStart => exact ⟨0, [], _, _, [], Nat.zero_le _, rfl, by simp, by simp, HS0⟩
  case round =>
    obtain ⟨k, q, v, hv, es, hk, rfl, hek, he40, HS⟩ := hrel
    clear HS0
    by_cases hlt : k < l.length
    · obtain ⟨x, hx⟩ := some_at hlt
      obtain ⟨b1, o1, rfl, hs1, hc1⟩ := HA.out.at encT_len hx
      have x0 := cell_later HS.out.bel (hc1 0 _ rfl)
      have x1 := cell_later HS.out.bel (hc1 1 _ rfl)
      have x2 := cell_later HS.out.bel (hc1 2 _ rfl)
      simp only [Nat.add_zero] at x0
      have HC1 := hidI hc1
      clear hc1 hx hs1
      obtain ⟨xk, xa, xv⟩ := x
      simp only at x0 x1 x2
      have LV := hidI (fun g (hg : v.ownBlock = some g) => (rowLt HS.out.ref.own hg).2)
      have LO := hidI (show w.heap.size + 1 + 1 + 1 < wr.heap.size from HS.out.ord.2.2.2.2)
      have LQ := hidI (show q.length ≤ 64 from by obtain ⟨c1, f1, r1⟩ := HS.out.ring; exact r1.q64)
      by_cases k0 : xk = 0
      · subst k0
        have HT := hidI (HS.out.alloc (.cells #[.int .i64 0, .int .i64 xa, .int .i64 xv] 73))
        have hsb := block_new wr (.cells #[.int .i64 0, .int .i64 xa, .int .i64 xv] 73)
        go_wp2_with fail
        generalize wr.alloc (.cells #[.int .i64 0, .int .i64 xa, .int .i64 xv] 73) = wT at HT hsb ⊢
        have d1 : wT.cell? ⟨wr.heap.size, 1, none⟩ = some (.int .i64 xa) := cell_of_block hsb rfl
        have d2 : wT.cell? ⟨wr.heap.size, 2, none⟩ = some (.int .i64 xv) := cell_of_block hsb rfl
        have HSB := hidI hsb
        have HD := hidI (show PlaySt w wT.drew (w.heap.size) (w.heap.size + 1) (w.heap.size + 1 + 1) (w.heap.size + 1 + 1 + 1) q q v hv es from HT.out.drewN 1)
        obtain ⟨c1, f1, r1⟩ := HD.out.ring
        have R1 := hidI r1
        clear r1 hsb x0 x1 x2
        by_cases hq : q.length < 64
        · go_region_held3 (fun w' => w'.cell? ⟨wr.heap.size, 1, none⟩ = some (.int .i64 xa) ∧ w'.cell? ⟨wr.heap.size, 2, none⟩ = some (.int .i64 xv)) (refine ⟨?_, ?_⟩ <;> first | assumption | simp only [World.cell?_drew, *]) (first
            | (go_at_call 17; refine (put_some R1.out hq xa xv).mono ?_; rintro e2 w2 ⟨rfl, ⟨c2, hr2⟩, hc2, -⟩; have H2 := hidI (HD.out.ringStep hc2 ⟨c2, _, hr2⟩); have hs2 := chgblk hc2 HSB.out (by have := LO.out; omega); have t1 : w2.cell? ⟨wr.heap.size, 1, none⟩ = some (.int .i64 xa) := cell_of_block hs2 rfl; have t2 : w2.cell? ⟨wr.heap.size, 2, none⟩ = some (.int .i64 xv) := cell_of_block hs2 rfl; have HS2 := hidI hs2; clear hr2 hc2 hs2)
            | (go_at_call 18; refine (rput_any H2.out.ref hq (by have := H2.out.ord.2.2.2.2; omega) xa xv).mono ?_; rintro e3 w3 ⟨rfl, hp⟩; have hs3 : w3.heap[wr.heap.size]? = some (.cells #[.int .i64 0, .int .i64 xa, .int .i64 xv] 73) := (by obtain ⟨v3, -, hc3, -⟩ := hp; exact chgblk hc3 HS2.out (fun e => by rcases e with e | e; (have := LO.out; omega); (have := LV.out _ e; omega))); have u1 : w3.cell? ⟨wr.heap.size, 1, none⟩ = some (.int .i64 xa) := cell_of_block hs3 rfl; have u2 : w3.cell? ⟨wr.heap.size, 2, none⟩ = some (.int .i64 xv) := cell_of_block hs3 rfl; obtain ⟨v3, h3⟩ := H2.out.refStep hp; have H3 := hidI h3; clear hp h3 hs3))
          all_goals (
            clear d1 d2 t1 t2 u1 u2
            go_wp2_with fail
            obtain ⟨c1, f1, r1⟩ := H3.out.ring
            obtain ⟨c2, f2, r2⟩ := H3.out.ring2
            have R1 := hidI (fun t => r1.below (ext_below w3 t))
            have R2 := hidI (fun t => r2.below (ext_below w3 t))
            obtain ⟨lo9, lc9, hv9⟩ := ownsRow_shape H3.out.ref.own
            have cw : ∀ t, (ext w3 t).cell? ⟨w.heap.size + 1 + 1, 0, none⟩ = some (.slice lo9 (q ++ [(xa, xv)]).length lc9) := fun t => by rw [← hv9]; exact cell_of_block (ext_block H3.out.ref.blk t) rfl
            clear r1 r2 hv9
            refine wp_region_grow (by kernel_rfl) (by kernel_rfl) ?_
            repeat (go_big_quiet_step ((first | (go_at_call 27; first | exact grow_of_same (len_yes (R1.out _)) | exact grow_of_same (len_yes (R2.out _))))))
            refine wpQuiet_nil ?_
            intro wU hb
            have HU := hidI (H3.out.next hb)
            clear hb cw
            go_wp2_with fail
            exact ⟨⟨k + 1, q ++ [(xa, xv)], _, _, es, by omega, by go_num, by omega, he40, HU⟩, by simp [intOf]; omega⟩)
        · have hq64 : q.length = 64 := by have := LQ.out; omega
          go_region_held3 (fun w' => w'.cell? ⟨wr.heap.size, 1, none⟩ = some (.int .i64 xa) ∧ w'.cell? ⟨wr.heap.size, 2, none⟩ = some (.int .i64 xv)) (refine ⟨?_, ?_⟩ <;> first | assumption | simp only [World.cell?_drew, *]) (first
            | (go_at_call 17; refine (put_full R1.out hq64 xa xv).mono ?_; rintro e2 w2 ⟨rfl, hw2⟩; have hs2 : w2.heap[wr.heap.size]? = some (.cells #[.int .i64 0, .int .i64 xa, .int .i64 xv] 73) := (by rw [hw2]; exact HSB.out); have H2 : Hid (PlaySt w w2 (w.heap.size) (w.heap.size + 1) (w.heap.size + 1 + 1) (w.heap.size + 1 + 1 + 1) q q v hv es) := (by rw [hw2]; exact HD); have t1 : w2.cell? ⟨wr.heap.size, 1, none⟩ = some (.int .i64 xa) := cell_of_block hs2 rfl; have t2 : w2.cell? ⟨wr.heap.size, 2, none⟩ = some (.int .i64 xv) := cell_of_block hs2 rfl; have HS2 := hidI hs2; clear hw2 hs2)
            | (go_at_call 18; refine (rput_full H2.out.ref hq64 xa xv).mono ?_; rintro e3 w3 ⟨rfl, hw3⟩; have hs3 : w3.heap[wr.heap.size]? = some (.cells #[.int .i64 0, .int .i64 xa, .int .i64 xv] 73) := (by rw [hw3]; exact HS2.out); have H3 : Hid (PlaySt w w3 (w.heap.size) (w.heap.size + 1) (w.heap.size + 1 + 1) (w.heap.size + 1 + 1 + 1) q q v hv es) := (by rw [hw3]; exact H2); have u1 : w3.cell? ⟨wr.heap.size, 1, none⟩ = some (.int .i64 xa) := cell_of_block hs3 rfl; have u2 : w3.cell? ⟨wr.heap.size, 2, none⟩ = some (.int .i64 xv) := cell_of_block hs3 rfl; clear hw3 hs3))
          all_goals (
            clear d1 d2 t1 t2 u1 u2
            go_wp2_with fail
            obtain ⟨c1, f1, r1⟩ := H3.out.ring
            obtain ⟨c2, f2, r2⟩ := H3.out.ring2
            have R1 := hidI (fun t => r1.below (ext_below w3 t))
            have R2 := hidI (fun t => r2.below (ext_below w3 t))
            obtain ⟨lo9, lc9, hv9⟩ := ownsRow_shape H3.out.ref.own
            have cw : ∀ t, (ext w3 t).cell? ⟨w.heap.size + 1 + 1, 0, none⟩ = some (.slice lo9 (q).length lc9) := fun t => by rw [← hv9]; exact cell_of_block (ext_block H3.out.ref.blk t) rfl
            clear r1 r2 hv9
            refine wp_region_grow (by kernel_rfl) (by kernel_rfl) ?_
            repeat (go_big_quiet_step ((first | (go_at_call 27; first | exact grow_of_same (len_yes (R1.out _)) | exact grow_of_same (len_yes (R2.out _))))))
            refine wpQuiet_nil ?_
            intro wU hb
            have HU := hidI (H3.out.next hb)
            clear hb cw
            go_wp2_with fail
            exact ⟨⟨k + 1, q, _, _, es, by omega, by go_num, by omega, he40, HU⟩, by simp [intOf]; omega⟩)
      by_cases k1 : xk = 1
      · subst k1
        have HT := hidI (HS.out.alloc (.cells #[.int .i64 1, .int .i64 xa, .int .i64 xv] 73))
        go_wp2_with fail
        have LT := hidI (show wr.heap.size < (wr.alloc (.cells #[.int .i64 1, .int .i64 xa, .int .i64 xv] 73)).heap.size from by simp)
        generalize wr.alloc (.cells #[.int .i64 1, .int .i64 xa, .int .i64 xv] 73) = wT at HT LT ⊢
        obtain ⟨c1, f1, r1⟩ := HT.out.ring
        cases q with
        | nil =>
          refine (take_empty r1).mono ?_
          rintro e w2 ⟨rfl, hb2⟩
          have H2 := hidI ((HT.out.next hb2).alloc (.cells #[.int .i64 0, .int .i64 0] 76))
          clear hb2 r1 x0 x1 x2
          go_wp2_with fail
          refine (rtake_none H2.out.ref).mono ?_
          rintro e w3 ⟨rfl, hb3⟩
          have H3 := hidI (H2.out.next hb3)
          have hc := blk hb3 (block_new w2 (.cells #[.int .i64 0, .int .i64 0] 76))
          have y0 : ∀ o, (w3.alloc o).cell? ⟨w2.heap.size, 0, none⟩ = some (.int .i64 0) := fun o => cell_of_block (block_alloc hc) rfl
          have y1 : ∀ o, (w3.alloc o).cell? ⟨w2.heap.size, 1, none⟩ = some (.int .i64 0) := fun o => cell_of_block (block_alloc hc) rfl
          clear hb3 hc
          go_wp2_with fail
          have HZ := hidI (H3.out.alloc (.cells #[.int .i64 0, .int .i64 0] 76))
          clear y0 y1
          generalize w3.alloc (.cells #[.int .i64 0, .int .i64 0] 76) = wZ at HZ ⊢
          obtain ⟨c1, f1, r1⟩ := HZ.out.ring
          obtain ⟨c2, f2, r2⟩ := HZ.out.ring2
          have R1 := hidI (fun t => r1.below (ext_below wZ t))
          have R2 := hidI (fun t => r2.below (ext_below wZ t))
          obtain ⟨lo9, lc9, hv9⟩ := ownsRow_shape HZ.out.ref.own
          have cw : ∀ t, (ext wZ t).cell? ⟨w.heap.size + 1 + 1, 0, none⟩ = some (.slice lo9 (([] : List (Int × Int))).length lc9) := fun t => by rw [← hv9]; exact cell_of_block (ext_block HZ.out.ref.blk t) rfl
          clear r1 r2 hv9
          refine wp_region_grow (by kernel_rfl) (by kernel_rfl) ?_
          repeat (go_big_quiet_step ((first | (go_at_call 27; first | exact grow_of_same (len_yes (R1.out _)) | exact grow_of_same (len_yes (R2.out _))))))
          refine wpQuiet_nil ?_
          intro wU hb
          have HU := hidI (HZ.out.next hb)
          clear hb cw
          go_wp2_with fail
          exact ⟨⟨k + 1, ([] : List (Int × Int)), _, _, es, by omega, by go_num, by omega, he40, HU⟩, by simp [intOf]; omega⟩
        | cons y q =>
          have R1 := hidI r1
          clear r1 x0 x1 x2
          refine (take_some R1.out).mono ?_
          rintro e w2 ⟨rfl, ⟨c2, f2, r2⟩, hc2⟩
          have H2 := hidI ((HT.out.ringStep hc2 ⟨c2, f2, r2⟩).alloc (.cells #[.int .i64 y.1, .int .i64 y.2] 76))
          have LW := hidI (show wr.heap.size < w2.heap.size from Nat.lt_of_lt_of_le LT.out hc2.size)
          clear r2 hc2
          go_wp2_with fail
          refine (rtake_some H2.out.ref (by have := LQ.out; simp at this; omega) (by have := H2.out.ord.2.2.2.2; omega)).mono ?_
          rintro e w3 ⟨rfl, hp⟩
          have hc : w3.heap[w2.heap.size]? = some (.cells #[.int .i64 y.1, .int .i64 y.2] 76) := by
            obtain ⟨v3, -, hc3, -⟩ := hp
            refine chgblk hc3 (block_new w2 (.cells #[.int .i64 y.1, .int .i64 y.2] 76)) (fun e => ?_)
            have h1 := LW.out
            rcases e with e | e
            · have := LO.out; omega
            · have := LV.out _ e; omega
          obtain ⟨v3, h3⟩ := H2.out.refStep hp
          have H3 := hidI h3
          have y0 : ∀ o, (w3.alloc o).cell? ⟨w2.heap.size, 0, none⟩ = some (.int .i64 y.1) := fun o => cell_of_block (block_alloc hc) rfl
          have y1 : ∀ o, (w3.alloc o).cell? ⟨w2.heap.size, 1, none⟩ = some (.int .i64 y.2) := fun o => cell_of_block (block_alloc hc) rfl
          clear hp h3 hc
          go_wp2_with fail
          have HZ := hidI (H3.out.alloc (.cells #[.int .i64 y.1, .int .i64 y.2] 76))
          clear y0 y1
          generalize w3.alloc (.cells #[.int .i64 y.1, .int .i64 y.2] 76) = wZ at HZ ⊢
          obtain ⟨c1, f1, r1⟩ := HZ.out.ring
          obtain ⟨c2, f2, r2⟩ := HZ.out.ring2
          have R1 := hidI (fun t => r1.below (ext_below wZ t))
          have R2 := hidI (fun t => r2.below (ext_below wZ t))
          obtain ⟨lo9, lc9, hv9⟩ := ownsRow_shape HZ.out.ref.own
          have cw : ∀ t, (ext wZ t).cell? ⟨w.heap.size + 1 + 1, 0, none⟩ = some (.slice lo9 (q).length lc9) := fun t => by rw [← hv9]; exact cell_of_block (ext_block HZ.out.ref.blk t) rfl
          clear r1 r2 hv9
          refine wp_region_grow (by kernel_rfl) (by kernel_rfl) ?_
          repeat (go_big_quiet_step ((first | (go_at_call 27; first | exact grow_of_same (len_yes (R1.out _)) | exact grow_of_same (len_yes (R2.out _))))))
          refine wpQuiet_nil ?_
          intro wU hb
          have HU := hidI (HZ.out.next hb)
          clear hb cw
          go_wp2_with fail
          exact ⟨⟨k + 1, q, _, _, es, by omega, by go_num, by omega, he40, HU⟩, by simp [intOf]; omega⟩
      by_cases k2 : xk = 2
      · subst k2
        have HT := hidI (HS.out.alloc (.cells #[.int .i64 2, .int .i64 xa, .int .i64 xv] 73))
        have hsb := block_new wr (.cells #[.int .i64 2, .int .i64 xa, .int .i64 xv] 73)
        go_wp2_with fail
        generalize wr.alloc (.cells #[.int .i64 2, .int .i64 xa, .int .i64 xv] 73) = wT at HT hsb ⊢
        obtain ⟨c1, f1, r1⟩ := HT.out.ring
        have R1 := hidI r1
        have HSB := hidI hsb
        clear r1 x0 x1 x2 hsb
        refine (find_yes R1.out xa).mono ?_
        rintro e w2 ⟨rfl, n, rfl⟩
        have H2 := hidI (HT.out.drewN n)
        have d1 : (wT.drewN n).cell? ⟨wr.heap.size, 1, none⟩ = some (.int .i64 xa) := cell_of_block (w := wT.drewN n) HSB.out rfl
        have hq := rfind_any H2.out.ref LQ.out xa
        have HF := hidI hq
        clear hq
        unfold FindPost findV at HF
        unfold findV
        cases hf : findS q xa with
        | none =>
          rw [hf] at HF
          simp only at HF ⊢
          go_wp2_with fail
          refine HF.out.mono ?_
          rintro e w3 ⟨rfl, n2, hw3⟩
          have H3 : Hid (PlaySt w w3 (w.heap.size) (w.heap.size + 1) (w.heap.size + 1 + 1) (w.heap.size + 1 + 1 + 1) q q v hv es) := by rw [hw3]; exact hidI (H2.out.drewN n2)
          clear hw3 d1
          go_wp2_with fail
          obtain ⟨c1, f1, r1⟩ := H3.out.ring
          obtain ⟨c2, f2, r2⟩ := H3.out.ring2
          have R1 := hidI (fun t => r1.below (ext_below w3 t))
          have R2 := hidI (fun t => r2.below (ext_below w3 t))
          obtain ⟨lo9, lc9, hv9⟩ := ownsRow_shape H3.out.ref.own
          have cw : ∀ t, (ext w3 t).cell? ⟨w.heap.size + 1 + 1, 0, none⟩ = some (.slice lo9 (q).length lc9) := fun t => by rw [← hv9]; exact cell_of_block (ext_block H3.out.ref.blk t) rfl
          clear r1 r2 hv9
          refine wp_region_grow (by kernel_rfl) (by kernel_rfl) ?_
          repeat (go_big_quiet_step ((first | (go_at_call 27; first | exact grow_of_same (len_yes (R1.out _)) | exact grow_of_same (len_yes (R2.out _))))))
          refine wpQuiet_nil ?_
          intro wU hb
          have HU := hidI (H3.out.next hb)
          clear hb cw
          go_wp2_with fail
          exact ⟨⟨k + 1, q, _, _, es, by omega, by go_num, by omega, he40, HU⟩, by simp [intOf]; omega⟩
        | some z =>
          rw [hf] at HF
          simp only at HF ⊢
          go_wp2_with fail
          refine HF.out.mono ?_
          rintro e w3 ⟨rfl, n2, hw3⟩
          have H3 : Hid (PlaySt w w3 (w.heap.size) (w.heap.size + 1) (w.heap.size + 1 + 1) (w.heap.size + 1 + 1 + 1) q q v hv es) := by rw [hw3]; exact hidI (H2.out.drewN n2)
          clear hw3 d1
          go_wp2_with fail
          obtain ⟨c1, f1, r1⟩ := H3.out.ring
          obtain ⟨c2, f2, r2⟩ := H3.out.ring2
          have R1 := hidI (fun t => r1.below (ext_below w3 t))
          have R2 := hidI (fun t => r2.below (ext_below w3 t))
          obtain ⟨lo9, lc9, hv9⟩ := ownsRow_shape H3.out.ref.own
          have cw : ∀ t, (ext w3 t).cell? ⟨w.heap.size + 1 + 1, 0, none⟩ = some (.slice lo9 (q).length lc9) := fun t => by rw [← hv9]; exact cell_of_block (ext_block H3.out.ref.blk t) rfl
          clear r1 r2 hv9
          refine wp_region_grow (by kernel_rfl) (by kernel_rfl) ?_
          repeat (go_big_quiet_step ((first | (go_at_call 27; first | exact grow_of_same (len_yes (R1.out _)) | exact grow_of_same (len_yes (R2.out _))))))
          refine wpQuiet_nil ?_
          intro wU hb
          have HU := hidI (H3.out.next hb)
          clear hb cw
          go_wp2_with fail
          exact ⟨⟨k + 1, q, _, _, es, by omega, by go_num, by omega, he40, HU⟩, by simp [intOf]; omega⟩
      by_cases k3 : xk = 3
      · subst k3
        have HT := hidI (HS.out.alloc (.cells #[.int .i64 3, .int .i64 xa, .int .i64 xv] 73))
        have LT := hidI (show wr.heap.size < (wr.alloc (.cells #[.int .i64 3, .int .i64 xa, .int .i64 xv] 73)).heap.size from by simp)
        go_wp2_with fail
        generalize wr.alloc (.cells #[.int .i64 3, .int .i64 xa, .int .i64 xv] 73) = wT at HT LT ⊢
        obtain ⟨c1, f1, r1⟩ := HT.out.ring
        have R1 := hidI r1
        clear r1 x0 x1 x2
        refine (all_yes R1.out).mono ?_
        rintro e w2 ⟨g2, rfl, hown, hb2⟩
        have H2 := hidI (HT.out.next hb2)
        have HO2 := hidI hown
        clear hown hb2
        go_wp2_with fail
        refine (rall_any H2.out.ref LQ.out).mono ?_
        rintro e w3 ⟨ao3, ca3, rfl, hown3, hb3⟩
        have H3 := hidI (H2.out.next hb3)
        have HO3 := hidI hown3
        have HO2' := hidI (ownRow_keep HO2.out (fun g _ hl => hb3.block g hl))
        clear hown3 hb3
        go_wp2_with fail
        refine (sameCells_true (l := q) (Rd.of_own HO2'.out) (Rd.of_own HO3.out) (by have := LQ.out; omega)).mono ?_
        rintro e w4 ⟨rfl, hb4⟩
        have H4 := hidI (H3.out.next hb4)
        have HO4 := hidI (ownRow_keep HO2'.out (fun g _ hl => hb4.block g hl))
        clear hb4
        by_cases h40 : k < 40
        · go_wp2_with fail
          obtain ⟨C, hC⟩ := H4.out.book
          have hC' := hC
          obtain ⟨hC0, hC1, hC2, hC3, hC4⟩ := hC'
          have hg : ∀ g, (Value.slice (some ⟨g2, 0, none⟩) q.length q.length).ownBlock = some g → wT.heap.size ≤ g := fun g hg => (rowLt HO4.out hg).1
          have hkT : ∀ g, ownsCell hv es g → g < wT.heap.size := fun g hg => (HT.out.kind.from hg).2
          have hkb : w.heap.size + 1 + 1 + 1 < wT.heap.size := HT.out.ord.2.2.2.2
          have HCALL := hidI (cellsKeep_any H4.out.kind hC0 hC2 hC3 (by omega) (by omega) (ownsRow_mono HO4.out hkb) (fun g h => ⟨fun e => by have := hg g h; have := hkT g (.inl e); omega, by have := hg g h; omega⟩) (fun i g e he h1 h2 => by have := hg g h2; have := hkT g (.inr ⟨i, e, he, h1⟩); omega) H4.out.ord.2.2.2.2)
          have HCB := hidI hC
          have HG := hidI hg
          clear hC hC0 hC1 hC2 hC3 hC4 hg hkT hkb
          refine HCALL.out.mono ?_
          rintro e w5 ⟨rfl, hkept⟩
          obtain ⟨hv5, h5⟩ := H4.out.keepStep HCB.out LQ.out hkept (fun g h1 h2 => by have := HG.out g h1; have := LV.out g h2; have := LT.out; omega)
          have H5 := hidI h5
          clear HCALL hkept h5
          go_wp2_with fail
          obtain ⟨c1, f1, r1⟩ := H5.out.ring
          obtain ⟨c2, f2, r2⟩ := H5.out.ring2
          have R1 := hidI (fun t => r1.below (ext_below w5 t))
          have R2 := hidI (fun t => r2.below (ext_below w5 t))
          obtain ⟨lo9, lc9, hv9⟩ := ownsRow_shape H5.out.ref.own
          have cw : ∀ t, (ext w5 t).cell? ⟨w.heap.size + 1 + 1, 0, none⟩ = some (.slice lo9 (q).length lc9) := fun t => by rw [← hv9]; exact cell_of_block (ext_block H5.out.ref.blk t) rfl
          clear r1 r2 hv9
          refine wp_region_grow (by kernel_rfl) (by kernel_rfl) ?_
          repeat (go_big_quiet_step ((first | (go_at_call 27; first | exact grow_of_same (len_yes (R1.out _)) | exact grow_of_same (len_yes (R2.out _))))))
          refine wpQuiet_nil ?_
          intro wU hb
          have HU := hidI (H5.out.next hb)
          clear hb cw
          go_wp2_with fail
          exact ⟨⟨k + 1, q, _, _, es ++ [⟨.slice (some ⟨g2, 0, none⟩) q.length q.length, es.length, q.length⟩], by omega, by go_num, by simp; omega, by simp; omega, HU⟩, by simp [intOf]; omega⟩
        · go_wp2_with fail
          obtain ⟨c1, f1, r1⟩ := H4.out.ring
          obtain ⟨c2, f2, r2⟩ := H4.out.ring2
          have R1 := hidI (fun t => r1.below (ext_below w4 t))
          have R2 := hidI (fun t => r2.below (ext_below w4 t))
          obtain ⟨lo9, lc9, hv9⟩ := ownsRow_shape H4.out.ref.own
          have cw : ∀ t, (ext w4 t).cell? ⟨w.heap.size + 1 + 1, 0, none⟩ = some (.slice lo9 (q).length lc9) := fun t => by rw [← hv9]; exact cell_of_block (ext_block H4.out.ref.blk t) rfl
          clear r1 r2 hv9
          refine wp_region_grow (by kernel_rfl) (by kernel_rfl) ?_
          repeat (go_big_quiet_step ((first | (go_at_call 27; first | exact grow_of_same (len_yes (R1.out _)) | exact grow_of_same (len_yes (R2.out _))))))
          refine wpQuiet_nil ?_
          intro wU hb
          have HU := hidI (H4.out.next hb)
          clear hb cw
          go_wp2_with fail
          exact ⟨⟨k + 1, q, _, _, es, by omega, by go_num, by omega, he40, HU⟩, by simp [intOf]; omega⟩
      have HT := hidI (HS.out.alloc (.cells #[.int .i64 xk, .int .i64 xa, .int .i64 xv] 73))
      have e0 : (xk == 0) = false := by simpa using k0
      have e1 : (xk == 1) = false := by simpa using k1
      have e2 : (xk == 2) = false := by simpa using k2
      have e3 : (xk == 3) = false := by simpa using k3
      go_wp2_with fail
      generalize wr.alloc (.cells #[.int .i64 xk, .int .i64 xa, .int .i64 xv] 73) = wT at HT ⊢
      obtain ⟨c1, f1, r1⟩ := HT.out.ring
      obtain ⟨c2, f2, r2⟩ := HT.out.ring2
      have R1 := hidI (fun t => r1.below (ext_below wT t))
      have R2 := hidI (fun t => r2.below (ext_below wT t))
      obtain ⟨lo9, lc9, hv9⟩ := ownsRow_shape HT.out.ref.own
      have cw : ∀ t, (ext wT t).cell? ⟨w.heap.size + 1 + 1, 0, none⟩ = some (.slice lo9 (q).length lc9) := fun t => by rw [← hv9]; exact cell_of_block (ext_block HT.out.ref.blk t) rfl
      clear r1 r2 hv9
      refine wp_region_grow (by kernel_rfl) (by kernel_rfl) ?_
      repeat (go_big_quiet_step ((first | (go_at_call 27; first | exact grow_of_same (len_yes (R1.out _)) | exact grow_of_same (len_yes (R2.out _))))))
      refine wpQuiet_nil ?_
      intro wU hb
      have HU := hidI (HT.out.next hb)
      clear hb cw
      go_wp2_with fail
      exact ⟨⟨k + 1, q, _, _, es, by omega, by go_num, by omega, he40, HU⟩, by simp [intOf]; omega⟩
    · obtain rfl : k = l.length := by omega
      have LQ := hidI (show q.length ≤ 64 from by obtain ⟨c1, f1, r1⟩ := HS.out.ring; exact r1.q64)
      go_wp2_with fail
      obtain ⟨c1, f1, r1⟩ := HS.out.ring
      have R1 := hidI r1
      clear r1
      refine (all_yes R1.out).mono ?_
      rintro e w2 ⟨g2, rfl, hown, hb2⟩
      have H2 := hidI (HS.out.next hb2)
      have HO2 := hidI hown
      clear hown hb2
      go_wp2_with fail
      refine (rall_any H2.out.ref LQ.out).mono ?_
      rintro e w3 ⟨ao3, ca3, rfl, hown3, hb3⟩
      have H3 := hidI (H2.out.next hb3)
      have HO3 := hidI hown3
      have HO2' := hidI (ownRow_keep HO2.out (fun g _ hl => hb3.block g hl))
      clear hown3 hb3
      go_wp2_with fail
      refine (sameCells_true (l := q) (Rd.of_own HO2'.out) (Rd.of_own HO3.out) (by have := LQ.out; omega)).mono ?_
      rintro e w4 ⟨rfl, hb4⟩
      have H4 := hidI (H3.out.next hb4)
      clear hb4
      obtain ⟨C, hC0, hC1, hC2, hC3, hC4⟩ := H4.out.book
      have HCALL := hidI (apartCell_any H4.out.kind H4.out.lens (by decide) hC0 hC2 hC4 (by omega))
      clear hC0 hC1 hC2 hC3 hC4
      go_wp2_with fail
      refine HCALL.out.mono ?_
      rintro e w5 ⟨rfl, hc5⟩
      obtain ⟨⟨c5, f5, r5⟩, hbuf5, hbel5⟩ := H4.out.apart hc5
      have R5 := hidI r5
      have HB5 := hidI hbuf5
      have HW5 := hidI hbel5
      clear r5 hbuf5 hbel5 hc5 HCALL
      go_wp2_with fail
      refine (all_yes R5.out).mono ?_
      rintro e w6 ⟨g6, rfl, hown6, hb6⟩
      have HO6 := hidI hown6
      have HB6 := hidI (HB5.out.below hb6)
      have HW6 := hidI (HW5.out.trans (hb6.mono HW5.out.size))
      clear hown6 hb6
      go_wp2_with fail
      refine (rall_any HB6.out LQ.out).mono ?_
      rintro e w7 ⟨ao7, ca7, rfl, hown7, hb7⟩
      have HO7 := hidI hown7
      have HO6' := hidI (ownRow_keep HO6.out (fun g _ hl => hb7.block g hl))
      have HW7 := hidI (HW6.out.trans (hb7.mono HW6.out.size))
      clear hown7 hb7
      go_wp2_with fail
      refine (sameCells_true (l := q) (Rd.of_own HO6'.out) (Rd.of_own HO7.out) (by have := LQ.out; omega)).mono ?_
      rintro e w8 ⟨rfl, hb8⟩
      have HW8 := hidI (HW7.out.trans (hb8.mono HW7.out.size))
      clear hb8
      go_wp2_with fail
      refine (alive_any _).mono ?_
      rintro e w9 ⟨rfl, hb9⟩
      have HW9 := hidI (HW8.out.trans (hb9.mono HW8.out.size))
      clear hb9
      go_wp2_with fail
      go_ret
      exact ⟨rfl, HW9.out⟩
end Go.Proofs.YtilkpmjkiohfdaaGreatDoor

/- BufferOrder's walk. -/
import Derived.Test.YtodljbhgiccioaaBufAlive
import Derived.Test.YtodljbhgiccioaaCells
import Derived.StillTailTactics
namespace Go.Proofs.Ytodljbhgiccioaa
open Go.RowKit

def encB (b : Bool) : List Value := [.bool b]
theorem encB_len : ∀ a, (encB a).length = 1 := fun _ => rfl
theorem bool_elem {H : Type} {enc : TypeId × Value → H} {w : World} {held : Bool} (fuel : Nat) (cs : List Value) (x : DataW H × List MemPlace) (h : DataW.trod enc Try.prog w 0 (fun _ => true) held fuel 4 cs = some x) : ∃ a, cs = encB a ∧ True := by
  obtain ⟨b, hb, -⟩ := DataW.trod_bool Try.underlying4 h
  exact ⟨b, hb, trivial⟩

/-- how the loop stands: the buffer in block b, the lists in and out in rows of their own behind it -/
structure OrdSt (w wr : World) (ins outs q : List (Int × Int)) (vi vo : Value) : Prop where
  ring : ∃ c f, Ring wr w.heap.size q c f
  oi : wr.ownsRow (w.heap.size + 1) 28 2 vi ins.length (ins.flatMap encCell)
  oo : wr.ownsRow (w.heap.size + 1) 28 2 vo outs.length (outs.flatMap encCell)
  apart : ∀ g, vi.ownBlock = some g → vo.ownBlock ≠ some g
  bel : Below w.heap.size w wr

theorem OrdSt.lt {w wr : World} {ins outs q : List (Int × Int)} {vi vo : Value} (h : OrdSt w wr ins outs q vi vo) : w.heap.size < wr.heap.size := by
  obtain ⟨c, f, hr⟩ := h.ring
  exact hr.lt

theorem OrdSt.step {w wr w' : World} {ins outs q q' : List (Int × Int)} {vi vo : Value} (h : OrdSt w wr ins outs q vi vo) (hc : Chg (fun k => k = w.heap.size) wr w') (hr : ∃ c f, Ring w' w.heap.size q' c f) :
    OrdSt w w' ins outs q' vi vo :=
  ⟨hr, ownsRow_chg h.oi hc (fun g hg e => by have := h.oi.lt g hg; omega), ownsRow_chg h.oo hc (fun g hg e => by have := h.oo.lt g hg; omega), h.apart,
    Chg.below h.bel (Nat.le_of_lt h.lt) hc (by rintro k rfl; exact Nat.le_refl _)⟩

theorem OrdSt.next {w wr w' : World} {ins outs q : List (Int × Int)} {vi vo : Value} (h : OrdSt w wr ins outs q vi vo) (hb : Below wr.heap.size wr w') : OrdSt w w' ins outs q vi vo := by
  obtain ⟨c, f, hr⟩ := h.ring
  exact h.step (Chg.of_below hb) ⟨c, f, hr.below hb⟩
theorem OrdSt.alloc {w wr : World} {ins outs q : List (Int × Int)} {vi vo : Value} (h : OrdSt w wr ins outs q vi vo) (o : Obj) : OrdSt w (wr.alloc o) ins outs q vi vo := h.next ((Below.refl _ _).alloc (Nat.le_refl _) _)

theorem OrdSt.appI {w wr w' : World} {ins outs q : List (Int × Int)} {vi vo vi' : Value} {x : Int × Int} (h : OrdSt w wr ins outs q vi vo)
    (ho : w'.ownsRow (w.heap.size + 1) 28 2 vi' (ins.length + 1) (ins.flatMap encCell ++ encCell x)) (hf : ∀ g, vi'.ownBlock = some g → vi.ownBlock = some g ∨ wr.heap.size ≤ g) (hg : wr.grownBy w' vi.ownBlock) :
    OrdSt w w' (ins ++ [x]) outs q vi' vo := by
  obtain ⟨c, f, hr⟩ := h.ring
  have hlt := h.lt
  refine ⟨⟨c, f, hr.keep (hg.block _ hlt (fun e => by have := h.oi.lt _ e.symm; omega))⟩, ?_, h.oo.kept hg ?_, ?_, h.bel.grown hg (by omega) (fun k hk => by have := h.oi.lt k hk; omega)⟩
  · rw [flat_snoc, List.length_append]; exact ho
  · cases hv : vo.ownBlock with
    | none => exact .inl rfl
    | some g => exact .inr (fun e => h.apart g e.symm hv)
  · intro g hv' hvo
    rcases hf g hv' with h1 | h1
    · exact h.apart g h1 hvo
    · have := h.oo.lt g hvo; omega

theorem OrdSt.appO {w wr w' : World} {ins outs q : List (Int × Int)} {vi vo vo' : Value} {x : Int × Int} (h : OrdSt w wr ins outs q vi vo)
    (ho : w'.ownsRow (w.heap.size + 1) 28 2 vo' (outs.length + 1) (outs.flatMap encCell ++ encCell x)) (hf : ∀ g, vo'.ownBlock = some g → vo.ownBlock = some g ∨ wr.heap.size ≤ g) (hg : wr.grownBy w' vo.ownBlock) :
    OrdSt w w' ins (outs ++ [x]) q vi vo' := by
  obtain ⟨c, f, hr⟩ := h.ring
  have hlt := h.lt
  refine ⟨⟨c, f, hr.keep (hg.block _ hlt (fun e => by have := h.oo.lt _ e.symm; omega))⟩, h.oi.kept hg ?_, ?_, ?_, h.bel.grown hg (by omega) (fun k hk => by have := h.oo.lt k hk; omega)⟩
  · cases hv : vi.ownBlock with
    | none => exact .inl rfl
    | some g => exact .inr (fun e => h.apart g hv e.symm)
  · rw [flat_snoc, List.length_append]; exact ho
  · intro g hvi hv'
    rcases hf g hv' with h1 | h1
    · exact h.apart g hvi h1
    · have := h.oi.lt g hvi; omega

set_option maxRecDepth 100000 in
set_option maxHeartbeats 2000000 in
theorem order_any {w : World} {ao to : Option Addr} {ca ct : Nat} {l : List (Int × Int)} {tk : List Bool} (ha : RdT encCell w 2 (.slice ao l.length ca) l) (ht : RdT encB w 1 (.slice to tk.length ct) tk)
    (hm : l.length ≤ 8796093021952) :
    Calls Try.prog 3 #[.slice ao l.length ca, .slice to tk.length ct] w fun e w' => e = .returned (.bool true) ∧ Below w.heap.size w w' := by
  obtain ⟨i0, hi, hz0, hz1, hz2⟩ := info_parts cellInfo
  have HA := hidI ha
  have HT := hidI ht
  clear ha ht
  go_enter Try.func3, Try.ntmps3
  go_wp2_with fail
  refine (new_any _).mono ?_
  rintro e w1 ⟨rfl, hw1⟩
  have HS : Hid (OrdSt w w1 [] [] [] (.slice none 0 0) (.slice none 0 0)) := hidI ⟨⟨_, _, by rw [hw1]; exact ring_new w⟩, World.ownsRow_nil _ _ _ _, World.ownsRow_nil _ _ _ _, (fun g hg => by cases hg), by rw [hw1]; exact (Below.refl _ _).alloc (Nat.le_refl _) _⟩
  clear hw1
  go_wp2_with fail
  go_loopw [6, 7, 8] (fun vi vo i wr => ∃ (k : Nat) (ins outs q : List (Int × Int)), k ≤ l.length ∧ i = .int .i64 k ∧ ins.length ≤ k ∧ ins = outs ++ q ∧ OrdSt w wr ins outs q vi vo) (fun _ _ i _ => l.length - (intOf i).toNat)
  case atStart => exact ⟨0, [], [], [], Nat.zero_le _, rfl, by simp, rfl, HS.out⟩
  case round =>
    obtain ⟨k, ins, outs, q, hk, rfl, hik, hio, hst⟩ := hrel
    have HIO := hidI hio
    have HST := hidI hst
    obtain ⟨c, f, hring⟩ := hst.ring
    have HR := hidI hring
    clear hio hring
    by_cases hlt : k < l.length
    · obtain ⟨x, hx⟩ := some_at hlt
      obtain ⟨b1, o1, rfl, hs1, hc1⟩ := HA.out.at encCell_len hx
      have x0 := cell_later hst.bel (hc1 0 _ rfl)
      have x1 := cell_later hst.bel (hc1 1 _ rfl)
      simp only [Nat.add_zero] at x0
      have hcw := hidI hc1
      have HX := hidI hx
      obtain ⟨ai, ci, rfl⟩ := ownsRow_shape hst.oi
      obtain ⟨ao2, co, rfl⟩ := ownsRow_shape hst.oo
      clear hc1 hx hst
      go_wp2_with fail
      go_still_tail 11, (by kernel_rfl)
      have HOL := hidI (show outs.length ≤ k from by have := HIO.out; have h2 := congrArg List.length this; simp at h2; omega)
      go_wp2_with fail
      by_cases hq : q.length < 64
      · refine (put_some (show Ring wr.drew w.heap.size q c f from HR.out.drewN 1) hq x.1 x.2).mono ?_
        rintro e w2 ⟨rfl, ⟨c2, hr2⟩, hc2, hs2⟩
        have hst2 := HST.out.step ((Chg.refl (fun k => k = w.heap.size) wr).drew.trans hc2) ⟨c2, f, hr2⟩
        have x0' := cell_later hst2.bel (hcw.out 0 _ rfl)
        have x1' := cell_later hst2.bel (hcw.out 1 _ rfl)
        simp only [Nat.add_zero] at x0'
        have HST2 := hidI hst2
        clear x0 x1 hr2 hc2 hs2 hst2 HST HR
        go_wp2_with (at_builtin; refine wpList_append_d _ rfl _ _ 22 rfl (w.heap.size + 1) 28 i0 _ 2 16 Try.underlying22 hi hz0 hz1 hz2 rfl (by decide) _ _ _ rfl (HST2.out.alloc _).oi ⟨w2.heap.size, 0, none⟩ 1 1 (encCell x) rfl rfl ?c1 ?c2 ?c3 ?c4 ?c5 ?_)
        case c1 => exact news_at (block_new _ _)
        case c2 => intro u hu; simp [encCell] at hu; rcases hu with rfl | rfl <;> rfl
        case c3 => unfold maxLen; omega
        case c4 => omega
        case c5 => exact Nat.succ_le_of_lt (HST2.out.alloc _).lt
        intro ai3 ci3 w3 hown3 hf3 hg3
        have hst3 := (HST2.out.alloc _).appI (x := x) hown3 (fun g hg => by simpa using hf3 g hg) hg3
        have HST3 := hidI hst3
        have HLX := hidI (show (ins ++ [x]).length ≤ k + 1 from by simp; omega)
        have HEX := hidI (show ins ++ [x] = outs ++ (q ++ [(x.1, x.2)]) from by rw [HIO.out]; simp)
        clear hown3 hf3 hg3 hst3 x0' x1'
        obtain ⟨y, q2, hq2⟩ : ∃ y q2, q ++ [(x.1, x.2)] = y :: q2 := by cases q with | nil => exact ⟨_, _, rfl⟩ | cons a t => exact ⟨_, _, rfl⟩
        have HQ2 := hidI hq2
        obtain ⟨c4, f4, hr4⟩ := HST3.out.ring
        have HR4 := hidI (show Ring w3 w.heap.size (y :: q2) c4 f4 from HQ2.out ▸ hr4)
        clear hr4 hq2
        by_cases hkt : k < tk.length
        · obtain ⟨bb, hbb⟩ := some_at hkt
          obtain ⟨b2, o2, rfl, hs3, hc3⟩ := HT.out.at encB_len hbb
          have t0 := cell_later HST3.out.bel (hc3 0 _ rfl)
          simp only [Nat.add_zero, Nat.mul_one] at t0
          clear hc3 hbb
          cases bb
          · go_wp2_with fail
            exact ⟨⟨k + 1, _, _, _, by omega, by go_num, HLX.out, HEX.out, HST3.out⟩, by simp [intOf]; omega⟩
          · go_wp2_with fail
            refine (take_some HR4.out).mono ?_
            rintro e w4 ⟨rfl, hr4, hc4⟩
            have HST4 := hidI (HST3.out.step hc4 hr4)
            clear hr4 hc4 t0
            go_wp2_with (at_builtin; refine wpList_append_d _ rfl _ _ 22 rfl (w.heap.size + 1) 28 i0 _ 2 16 Try.underlying22 hi hz0 hz1 hz2 rfl (by decide) _ _ _ rfl ((HST4.out.alloc _).alloc _).oo ⟨w4.heap.size + 1, 0, none⟩ 1 1 (encCell y) rfl rfl ?d1 ?d2 ?d3 ?d4 ?d5 ?_)
            case d1 => exact news_at (block_new2 _ _ _)
            case d2 => intro u hu; simp [encCell] at hu; rcases hu with rfl | rfl <;> rfl
            case d3 => have := HOL.out; unfold maxLen; omega
            case d4 => have := HOL.out; omega
            case d5 => exact Nat.succ_le_of_lt ((HST4.out.alloc _).alloc _).lt
            intro ao5 co5 w5 hown5 hf5 hg5
            have HST5 := hidI (((HST4.out.alloc _).alloc _).appO (x := y) hown5 (fun g hg => by simpa using hf5 g hg) hg5)
            clear hown5 hf5 hg5
            go_wp2_with fail
            exact ⟨⟨k + 1, _, outs ++ [y], q2, by omega, by go_num, HLX.out, by have := HEX.out; rw [HQ2.out] at this; simpa using this, HST5.out⟩, by simp [intOf]; omega⟩
        · go_wp2_with fail
          exact ⟨⟨k + 1, _, _, _, by omega, by go_num, HLX.out, HEX.out, HST3.out⟩, by simp [intOf]; omega⟩
      · have h64 := HR.out.q64
        have hq64 : q.length = 64 := by omega
        have HST3 := hidI (HST.out.next (w' := wr.drew) (Below.refl _ _).drew)
        refine (put_full (show Ring wr.drew w.heap.size q c f from HR.out.drewN 1) hq64 x.1 x.2).mono ?_
        rintro e w2 ⟨rfl, rfl⟩
        have hl := len_yes (show Ring wr.drew w.heap.size q c f from HR.out.drewN 1)
        rw [hq64] at hl
        have HL6 := hidI hl
        have HLX := hidI (show ins.length ≤ k + 1 from by omega)
        have HEX := HIO
        clear hl x0 x1 h64
        go_wp2_with fail
        refine HL6.out.mono ?_
        rintro e w2 ⟨rfl, rfl⟩
        obtain ⟨y, q2, hq2⟩ : ∃ y q2, q = y :: q2 := by cases q with | nil => simp at hq | cons a t => exact ⟨_, _, rfl⟩
        have HQ2 := hidI hq2
        obtain ⟨c4, f4, hr4⟩ := HST3.out.ring
        have HR4 := hidI (show Ring wr.drew w.heap.size (y :: q2) c4 f4 from HQ2.out ▸ hr4)
        clear hr4 hq2
        by_cases hkt : k < tk.length
        · obtain ⟨bb, hbb⟩ := some_at hkt
          obtain ⟨b2, o2, rfl, hs3, hc3⟩ := HT.out.at encB_len hbb
          have t0 := cell_later HST3.out.bel (hc3 0 _ rfl)
          simp only [Nat.add_zero, Nat.mul_one] at t0
          clear hc3 hbb
          cases bb
          · go_wp2_with fail
            exact ⟨⟨k + 1, _, _, _, by omega, by go_num, HLX.out, HEX.out, HST3.out⟩, by simp [intOf]; omega⟩
          · go_wp2_with fail
            refine (take_some HR4.out).mono ?_
            rintro e w4 ⟨rfl, hr4, hc4⟩
            have HST4 := hidI (HST3.out.step hc4 hr4)
            clear hr4 hc4 t0
            go_wp2_with (at_builtin; refine wpList_append_d _ rfl _ _ 22 rfl (w.heap.size + 1) 28 i0 _ 2 16 Try.underlying22 hi hz0 hz1 hz2 rfl (by decide) _ _ _ rfl ((HST4.out.alloc _).alloc _).oo ⟨w4.heap.size + 1, 0, none⟩ 1 1 (encCell y) rfl rfl ?d1 ?d2 ?d3 ?d4 ?d5 ?_)
            case d1 => exact news_at (block_new2 _ _ _)
            case d2 => intro u hu; simp [encCell] at hu; rcases hu with rfl | rfl <;> rfl
            case d3 => have := HOL.out; unfold maxLen; omega
            case d4 => have := HOL.out; omega
            case d5 => exact Nat.succ_le_of_lt ((HST4.out.alloc _).alloc _).lt
            intro ao5 co5 w5 hown5 hf5 hg5
            have HST5 := hidI (((HST4.out.alloc _).alloc _).appO (x := y) hown5 (fun g hg => by simpa using hf5 g hg) hg5)
            clear hown5 hf5 hg5
            go_wp2_with fail
            exact ⟨⟨k + 1, _, outs ++ [y], q2, by omega, by go_num, HLX.out, by have := HEX.out; rw [HQ2.out] at this; simpa using this, HST5.out⟩, by simp [intOf]; omega⟩
        · go_wp2_with fail
          exact ⟨⟨k + 1, _, _, _, by omega, by go_num, HLX.out, HEX.out, HST3.out⟩, by simp [intOf]; omega⟩
    · obtain rfl : k = l.length := by omega
      clear hk hlt
      obtain ⟨ai, ci, rfl⟩ := ownsRow_shape hst.oi
      obtain ⟨ao2, co, rfl⟩ := ownsRow_shape hst.oo
      clear hst
      go_wp2_with fail
      refine (all_yes HR.out).mono ?_
      rintro e w2 ⟨g2, rfl, hown2, hb2⟩
      obtain rfl := HIO.out
      simp only [List.length_append] at hik
      have HST2 := hidI (HST.out.next hb2)
      have HQ2 := hidI (Rd.of_own hown2)
      have HRg2 := hidI (own_full hown2)
      have HRB2 := hidI (HR.out.below hb2)
      clear hown2
      go_wp2_with fail
      refine (twinCells_any (l := outs) (Rd.of_own HST2.out.oo) (by omega)).mono ?_
      rintro e w3 ⟨g3, hg3, rfl, hblk3, hb3⟩
      have hown3 : w3.ownsRow (w.heap.size + 1) 28 2 (.slice (some ⟨g3, 0, none⟩) outs.length (outs.length + 2)) outs.length (outs.flatMap encCell) := by
        rw [List.flatMap_append] at hblk3
        refine own_of_block hblk3 (by have := HST2.out.lt; omega) (by unfold maxLen; omega) (by omega) (flat_len encCell_len outs) ?_
        rw [List.length_append, flat_len encCell_len, flat_len encCell_len]
        simp only [List.length_cons, List.length_nil]
        omega
      have HO3 := hidI hown3
      have HG3 := hidI hg3
      have HST3 := hidI (HST2.out.next hb3)
      have HQ3 := hidI (HQ2.out.below hb3)
      have HR3 := hidI (HRB2.out.below hb3)
      have HRg3 := hidI (blk hb3 HRg2.out.1)
      clear hblk3 hown3 hg3
      go_wp2_with (at_builtin; refine wpList_append_d _ rfl _ _ 22 rfl (w.heap.size + 1) 28 i0 _ 2 16 Try.underlying22 hi hz0 hz1 hz2 rfl (by decide) _ _ _ rfl HO3.out ⟨g2, 0, none⟩ q.length q.length (q.flatMap encCell) rfl (flat_len encCell_len q) ?e1 one_encCell ?e3 ?e4 ?e5 ?_)
      case e1 => exact news_at HRg3.out
      case e3 => unfold maxLen; omega
      case e4 => omega
      case e5 => exact Nat.succ_le_of_lt HST3.out.lt
      intro ao4 co4 w4 hown4 hf4 hg4
      have hc4 : Chg (fun k => k = g3) w3 w4 := ⟨hg4.os, hg4.tape, hg4.output, hg4.size, fun k hk hn => hg4.block k hk (fun e => hn (by simpa [Value.ownBlock] using e))⟩
      have hv4 : Rd w4 2 (.slice ao4 (outs.length + q.length) co4) (outs.length + q.length) ((outs ++ q).flatMap encCell) := by
        rw [List.flatMap_append]; exact Rd.of_own hown4
      have hi4 : Rd w4 2 (.slice ai (outs ++ q).length ci) (outs ++ q).length ((outs ++ q).flatMap encCell) := by
        refine (Rd.of_own HST3.out.oi).chg hc4 (fun b hb e => ?_)
        have := HST2.out.oi.lt b hb
        have := HG3.out
        omega
      have hl4 : (outs ++ q).length = outs.length + q.length := by simp
      have HV4 := hidI hv4
      have HI4 := hidI (show Rd w4 2 (.slice ai (outs.length + q.length) ci) (outs.length + q.length) ((outs ++ q).flatMap encCell) from hl4 ▸ hi4)
      have hq4 : Rd w4 2 (.slice (some ⟨g2, 0, none⟩) q.length q.length) q.length (q.flatMap encCell) := HQ3.out.chg hc4 (fun b hb e => by
        simp only [Value.ownBlock, Option.some.injEq] at hb
        have := lt_of_block HRg2.out.1
        have := HG3.out
        omega)
      have hr4 : Ring w4 w.heap.size q c f := HR3.out.keep (hc4.block _ HR3.out.lt (by have := HRB2.out.lt; have := HG3.out; omega))
      have HQ4 := hidI hq4
      have HR4 := hidI hr4
      have HB4 := hidI (Chg.below HST3.out.bel (Nat.le_of_lt HST3.out.lt) hc4 (by rintro k rfl; have := HST2.out.lt; have := HG3.out; omega))
      have HG2 := hidI (show w.heap.size < g2 from by have := HRg2.out.2; have := HST.out.lt; omega)
      clear hown4 hf4 hg4 hc4 hv4 hi4 hl4 hq4 hr4 HQ3 HR3 HO3 HST3 HST2 HQ2 HRg2 HRB2 HRg3
      go_wp2_with fail
      refine (sameCells_eq HV4.out HI4.out (by simp) (by simp) (by simp; omega)).mono ?_
      rintro e w5 ⟨rfl, hb5⟩
      have HQ5 := hidI (HQ4.out.below hb5)
      have HR5 := hidI (HR4.out.below hb5)
      have HB5 := hidI (HB4.out.trans (hb5.mono HB4.out.size))
      clear HQ4 HR4 HB4
      go_wp2_with fail
      go_loopw [12] (fun i wr => ∃ (k : Nat) (c : Array Value) (f : Nat), k ≤ q.length ∧ i = .int .i64 k ∧ Ring wr w.heap.size (q.drop k) c f ∧ Chg (fun j => j = w.heap.size) w5 wr) (fun i _ => q.length - (intOf i).toNat)
      case atStart => exact ⟨0, c, f, Nat.zero_le _, rfl, HR5.out, Chg.refl _ _⟩
      case round =>
        obtain ⟨k, c6, f6, hk, rfl, hr6, hc6⟩ := hrel
        have HR6 := hidI hr6
        have HC6 := hidI hc6
        clear hr6 hc6
        by_cases hlt : k < q.length
        · obtain ⟨y, hy⟩ := some_at hlt
          have hd : q.drop k = y :: q.drop (k + 1) := by
            obtain ⟨h1, rfl⟩ := List.getElem?_eq_some_iff.1 hy
            exact List.drop_eq_getElem_cons h1
          have HR7 := hidI (show Ring wr w.heap.size (y :: q.drop (k + 1)) c6 f6 from hd ▸ HR6.out)
          have HY := hidI hy
          clear hd hy
          go_wp2_with fail
          refine (take_some HR7.out).mono ?_
          rintro e w7 ⟨rfl, ⟨c7, f7, hr7⟩, hc7⟩
          have hc7' := HC6.out.trans hc7
          have hq7 : RdT encCell (w7.alloc (.cells #[.int .i64 y.1, .int .i64 y.2] 28)) 2 (.slice (some ⟨g2, 0, none⟩) q.length q.length) q :=
            (HQ5.out.chg hc7' (fun b hb e => by simp only [Value.ownBlock, Option.some.injEq] at hb; have := HG2.out; omega)).alloc _
          obtain ⟨b8, o8, e8, hs8, hc8⟩ := hq7.at encCell_len HY.out
          simp only [Option.some.injEq, Addr.mk.injEq, and_true] at e8
          obtain ⟨rfl, rfl⟩ := e8
          have z0 := hc8 0 _ rfl
          have z1 := hc8 1 _ rfl
          simp only [Nat.add_zero, Nat.zero_add] at z0 z1
          have HR8 := hidI hr7
          have HC8 := hidI hc7'
          clear hr7 hc7 hc7' hq7 hc8 hs8
          go_wp2_with fail
          go_quiet (fail)
          go_wp2_with fail
          exact ⟨⟨k + 1, c7, f7, by omega, by go_num, (HR8.out.below ((Below.refl _ _).alloc (Nat.le_refl _) _)).drewN nq, (HC8.out.alloc _).drewN nq⟩, by simp [intOf]; omega⟩
        · obtain rfl : k = q.length := by omega
          have HR7 := hidI (show Ring wr w.heap.size [] c6 f6 from List.drop_length (l := q) ▸ HR6.out)
          clear hk hlt
          go_wp2_with fail
          refine (take_empty HR7.out).mono ?_
          rintro e w7 ⟨rfl, hb7⟩
          have HR8 := hidI ((HR7.out.below hb7).below ((Below.refl _ _).alloc (Nat.le_refl _) (.cells #[.int .i64 0, .int .i64 0] 28)))
          go_wp2_with fail
          refine (len_yes HR8.out).mono ?_
          rintro e w8 ⟨rfl, rfl⟩
          go_wp2_with fail
          refine (alive_any _).mono ?_
          rintro e w8 ⟨rfl, hb8⟩
          go_wp2
          go_ret
          refine ⟨rfl, ?_⟩
          have b1 := Chg.below HB5.out HB5.out.size HC6.out (by rintro k rfl; exact Nat.le_refl _)
          exact bnextA (bnext b1 hb7) hb8

end Go.Proofs.Ytodljbhgiccioaa

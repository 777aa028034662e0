/- Put together by merge.py out of XRefK.lean.tpl, XRefL.lean.tpl. -/
import Derived.Test.YthmmbldhbdnfpaaGreatDoorMRefA
import Derived.Test.YthmmbldhbdnfpaaGreatDoorMTsoU
import Derived.Test.YthmmbldhbdnfpaaGreatDoorMBase
import Derived.Deep.RegionHeld3
import Derived.Test.YthmmbldhbdnfpaaGreatDoorMRefH
namespace Go.Proofs.YthmmbldhbdnfpaaGreatDoor
open Go.RowKit
set_option linter.unusedVariables false
set_option linter.unusedSimpArgs false

section
variable {w w' : World} {base b : Nat} {own own' : Nat → Nat} {mm : MM} {xs : List RX} {mv tv ev : Value}

def seenR (x : RX) : SX := ⟨x.ov, x.th.out, x.th.fin⟩
theorem seInfoR : (Tryz.prog.info? 131).map (fun i => (i.zero, i.size, i.bytes)) = some (some (.agg #[.slice none 0 0, .int .u8 0]), 2, 32) := by kernel_rfl
theorem one_se {ao : Option Addr} {n c : Nat} {f : Int} : ∀ u ∈ [Value.slice ao n c, Value.int .u8 f], u.oneCell' = true := by
  intro u hu
  simp at hu
  rcases hu with rfl | rfl <;> rfl

/-- Seen's post: whose the rows are -/
def RSeen (base : Nat) (mm : MM) (w : World) (r : Ending) (w' : World) : Prop :=
  ∃ (v : Value) (ls : List SX), r = .returned v ∧ w'.ownsRow w.heap.size 131 2 v ls.length (ls.flatMap encS) ∧ (∀ s ∈ ls, w'.ownsRow base 2 1 s.v s.out.length (s.out.flatMap encI)) ∧ ls.map (fun s => (s.out, s.fin)) = mm.ths.map (fun t => (t.out, t.fin)) ∧ Below w.heap.size w w'

set_option maxRecDepth 100000 in
set_option maxHeartbeats 2000000 in
theorem rseen_own (h : RAt w base b own mm xs mv tv ev) (h4 : xs.length ≤ 4) :
    Calls Tryz.prog 69 #[.pointer (some ⟨b, 0, none⟩)] w (RSeen base mm w) := by
  obtain ⟨to, tc, rfl⟩ := ownsRow_shape h.ths
  have H := hidI h
  obtain ⟨i0, hi, hz0, hz1, hz2⟩ := info_parts seInfoR
  have c1 := h.wcell 1 _ rfl
  clear h
  go_enter Tryz.func69, Tryz.ntmps69
  go_wp2_with fail
  go_loopw [3, 4] (fun v i wr => ∃ (k : Nat) (va : Value), va = v ∧ k ≤ xs.length ∧ i = .int .i64 (k : Int) ∧ Hid (wr.ownsRow w.heap.size 131 2 va k (((xs.take k).map seenR).flatMap encS)) ∧ Hid (Below w.heap.size w wr)) (fun v i _ => ((xs.length : Int) - intOf i).toNat)
  case atStart => exact ⟨0, _, rfl, by omega, rfl, hidI (World.ownsRow_nil _ _ _ _), hidI (Below.refl _ _)⟩
  case round =>
    obtain ⟨k, va, hva, hk, rfl, HROW, HW⟩ := hrel
    subst hva
    have d1 : wr.cell? ⟨b, 1, none⟩ = some (.slice to xs.length tc) := (H.out.below HW.out).wcell 1 _ rfl
    by_cases hlt : k < xs.length
    · obtain ⟨x, hx⟩ := some_at hlt
      obtain ⟨tb, cap, e1, -⟩ := H.out.tslice hx
      cases e1
      have e11 := (H.out.below HW.out).cell hx 11 _ rfl
      have e12 := (H.out.below HW.out).cell hx 12 _ rfl
      obtain ⟨oo, oc, hov⟩ := ownsRow_shape (H.out.th k x hx).out
      rw [hov] at e11
      have HX := hidI hx
      have HOV := hidI hov
      have hlb : b < w.heap.size := H.out.lt
      have hlt' : tb < w.heap.size := (rowLt H.out.ths rfl).2
      clear hov hx
      go_wp2_with fail
      go_region_law (first | (refine step_append_d (by rfl) (.tmp 14) (.tmp 32) 57 (by rfl) w.heap.size 131 i0 _ 2 32 Tryz.underlying57 hi hz0 hz1 hz2 rfl (by decide) va k (((xs.take k).map seenR).flatMap encS) (by simp [Act.eval]) (by exact ownsRow_chg HROW.out (((Chg.refl (fun _ => False) wr).alloc _).drew) (fun _ _ => id)) ⟨wr.heap.size, 0, none⟩ 1 1 (by decide) [.slice oo x.th.out.length oc, .int .u8 x.th.fin] (by simp [Act.eval]) rfl (by exact news_at (block_new wr _)) one_se (by unfold maxLen; omega) (by omega) (by have := HW.out.size; show w.heap.size ≤ (wr.alloc _).heap.size; rw [World.size_alloc]; omega) ?_; intro ao cp w2 h1 h2 h3; have hg0 : Chg (fun k => va.ownBlock = some k) wr w2 := Chg.grown (S := fun k => va.ownBlock = some k) (((Chg.refl _ wr).alloc _).drew) h3 (fun k hk => .inl hk); have HG0 := hidI hg0; have HR := hidI h1; clear h1 h2 h3 hg0))
      all_goals go_wp2_with fail
      all_goals (
        refine ⟨⟨k + 1, _, rfl, by omega, by go_num, hidI ?_, hidI (Chg.below HW.out HW.out.size HG0.out (fun k hk => (rowLt HROW.out hk).1))⟩, by simp [intOf]; omega⟩
        have e : ((xs.take (k + 1)).map seenR).flatMap encS = ((xs.take k).map seenR).flatMap encS ++ [.slice oo x.th.out.length oc, .int .u8 x.th.fin] := by
          rw [take_snoc HX.out, List.map_append, List.flatMap_append]
          congr 1
          show [x.ov, Value.int .u8 x.th.fin] = _
          rw [HOV.out]
        rw [e]
        exact HR.out)
    · obtain rfl : k = xs.length := by omega
      go_wp2_with fail
      go_ret
      have hrow := HROW.out
      rw [List.take_length] at hrow
      refine ⟨_, xs.map seenR, rfl, ?_, fun s hs => ?_, ?_, HW.out⟩
      · rw [List.length_map]
        exact hrow
      · obtain ⟨x, hx, rfl⟩ := List.mem_map.1 hs
        obtain ⟨i, hi⟩ := List.getElem?_of_mem hx
        exact ownRow_keep (H.out.th i x hi).out fun g _ hl => HW.out.block g hl
      · rw [H.out.same, List.map_map, List.map_map]
        try rfl
theorem rseen_any (h : RAt w base b own mm xs mv tv ev) (h4 : xs.length ≤ 4) :
    Calls Tryz.prog 69 #[.pointer (some ⟨b, 0, none⟩)] w (SeenPost mm w) := by
  refine (rseen_own h h4).mono ?_
  rintro r w' ⟨v, ls, rfl, h1, h2, h3, h4⟩
  exact ⟨v, ls, rfl, ⟨Rd.of_own h1, fun s hs => Rd.of_own (h2 s hs)⟩, h3, h4⟩
end

section
variable {w w' : World} {base b N : Nat} {mm : MM}

/-- a machine at b, its memory at base or above, N steps at most behind it -/
def RLive (w : World) (base b : Nat) (mm : MM) (N : Nat) : Prop := ∃ own xs mv tv ev, RAt w base b own mm xs mv tv ev ∧ MOk N mm
theorem RLive.below (h : RLive w base b mm N) (hb : Below w.heap.size w w') : RLive w' base b mm N := by
  obtain ⟨own, xs, mv, tv, ev, h1, h2⟩ := h
  exact ⟨own, xs, mv, tv, ev, h1.below hb, h2⟩
theorem RLive.base_le (h : RLive w base b mm N) : base ≤ w.heap.size := by
  obtain ⟨own, xs, mv, tv, ev, h1, h2⟩ := h
  exact h1.base_le
theorem RLive.more (h : RLive w base b mm N) : RLive w base b mm (N + 1) := by
  obtain ⟨own, xs, mv, tv, ev, h1, h2⟩ := h
  exact ⟨own, xs, mv, tv, ev, h1, h2.mono (by omega)⟩
theorem RGoes.live {own : Nat → Nat} {xs : List RX} {mv tv ev : Value} {mm' : MM} (h : RAt w base b own mm xs mv tv ev) (hg : RGoes w base b own mm' w') (hk : MOk N mm') : RLive w' base b mm' N ∧ Below base w w' := by
  obtain ⟨⟨own', xs', mv', tv', ev', h', -⟩, hc⟩ := hg
  exact ⟨⟨own', xs', mv', tv', ev', h', hk⟩, hc.to_below h.base_le h.low⟩
theorem rstep_l (h : RLive w base b mm N) (hN : N < 1000000000) (z : Int) :
    Calls Tryz.prog 14 #[.pointer (some ⟨b, 0, none⟩), .int .i64 z] w fun r w' => r = .returned (.bool (mm.step z).1) ∧ RLive w' base b (mm.step z).2 (N + 1) ∧ Below base w w' := by
  obtain ⟨own, xs, mv, tv, ev, h1, h2⟩ := h
  refine (rstep_any h1 h2 hN z).mono ?_
  rintro r w' ⟨rfl, hg⟩
  exact ⟨rfl, RGoes.live h1 hg (h2.step z)⟩
theorem rflush_l (h : RLive w base b mm N) (z : Int) :
    Calls Tryz.prog 16 #[.pointer (some ⟨b, 0, none⟩), .int .i64 z] w fun r w' => r = .returned (.bool (mm.flush z).1) ∧ RLive w' base b (mm.flush z).2 N ∧ Below base w w' := by
  obtain ⟨own, xs, mv, tv, ev, h1, h2⟩ := h
  refine (rflush_any h1 h2 z).mono ?_
  rintro r w' ⟨rfl, hg⟩
  exact ⟨rfl, RGoes.live h1 hg (h2.flush z)⟩
theorem rseen_l (h : RLive w base b mm N) :
    Calls Tryz.prog 69 #[.pointer (some ⟨b, 0, none⟩)] w (SeenPost mm w) := by
  obtain ⟨own, xs, mv, tv, ev, h1, h2⟩ := h
  exact rseen_any h1 (by rw [← rths_len h1]; exact h2.four)
theorem rseen_o (h : RLive w base b mm N) :
    Calls Tryz.prog 69 #[.pointer (some ⟨b, 0, none⟩)] w (RSeen base mm w) := by
  obtain ⟨own, xs, mv, tv, ev, h1, h2⟩ := h
  exact rseen_own h1 (by rw [← rths_len h1]; exact h2.four)
/-- the events, where they lie -/
theorem RLive.events (h : RLive w base b mm N) : ∃ ao cap, w.cell? ⟨b, 2, none⟩ = some (.slice ao mm.evs.length cap) ∧ w.ownsRow base 154 4 (.slice ao mm.evs.length cap) mm.evs.length (mm.evs.flatMap encEv) := by
  obtain ⟨own, xs, mv, tv, ev, h1, h2⟩ := h
  obtain ⟨ao, cap, rfl⟩ := ownsRow_shape h1.evs
  exact ⟨ao, cap, h1.wcell 2 _ rfl, h1.evs⟩
/-- made -/
theorem RLive.of {own : Nat → Nat} {xs : List RX} {mv tv ev : Value} (h : RAt w base b own mm xs mv tv ev) (hk : MOk N mm) : RLive w base b mm N := ⟨own, xs, mv, tv, ev, h, hk⟩

/-- a machine beside blocks that are none of its own -/
def ROff (w : World) (base b : Nat) (mm : MM) (N : Nat) (P : List Nat) : Prop := ∃ own xs mv tv ev, RAt w base b own mm xs mv tv ev ∧ MOk N mm ∧ ∀ k ∈ P, own k = 0 ∧ k < w.heap.size
theorem ROff.live {P : List Nat} (h : ROff w base b mm N P) : RLive w base b mm N := by
  obtain ⟨own, xs, mv, tv, ev, h1, h2, -⟩ := h
  exact ⟨own, xs, mv, tv, ev, h1, h2⟩
theorem ROff.of_live (h : RLive w base b mm N) : ROff w base b mm N [] := by
  obtain ⟨own, xs, mv, tv, ev, h1, h2⟩ := h
  exact ⟨own, xs, mv, tv, ev, h1, h2, fun k hk => absurd hk (by simp)⟩
theorem ROff.below {P : List Nat} (h : ROff w base b mm N P) (hb : Below w.heap.size w w') : ROff w' base b mm N P := by
  obtain ⟨own, xs, mv, tv, ev, h1, h2, h3⟩ := h
  exact ⟨own, xs, mv, tv, ev, h1.below hb, h2, fun k hk => ⟨(h3 k hk).1, Nat.lt_of_lt_of_le (h3 k hk).2 hb.size⟩⟩
/-- new blocks beside it -/
theorem ROff.add {P : List Nat} (h : ROff w base b mm N P) (o : Obj) : ROff (w.alloc o) base b mm N (w.heap.size :: P) := by
  obtain ⟨own, xs, mv, tv, ev, h1, h2, h3⟩ := h
  refine ⟨own, xs, mv, tv, ev, h1.below ((Below.refl _ _).alloc (Nat.le_refl _) _), h2, fun k hk => ?_⟩
  rcases List.mem_cons.1 hk with rfl | hk
  · exact ⟨h1.fresh _ (Nat.le_refl _), by simp⟩
  · have := h3 k hk
    exact ⟨this.1, by simp; omega⟩
theorem RGoes.off {own : Nat → Nat} {xs : List RX} {mv tv ev : Value} {mm' : MM} {P : List Nat} (h : RAt w base b own mm xs mv tv ev) (h3 : ∀ k ∈ P, own k = 0 ∧ k < w.heap.size) (hg : RGoes w base b own mm' w') (hk : MOk N mm') :
    ROff w' base b mm' N P ∧ Below base w w' ∧ ∀ k ∈ P, w'.heap[k]? = w.heap[k]? := by
  obtain ⟨⟨own', xs', mv', tv', ev', h', ho⟩, hc⟩ := hg
  exact ⟨⟨own', xs', mv', tv', ev', h', hk, fun k hk' => ⟨by rw [ho k (h3 k hk').2]; exact (h3 k hk').1, Nat.lt_of_lt_of_le (h3 k hk').2 hc.size⟩⟩, hc.to_below h.base_le h.low, fun k hk' => hc.block k (h3 k hk').2 (fun e => e (h3 k hk').1)⟩
theorem rstep_o {P : List Nat} (h : ROff w base b mm N P) (hN : N < 1000000000) (z : Int) :
    Calls Tryz.prog 14 #[.pointer (some ⟨b, 0, none⟩), .int .i64 z] w fun r w' => r = .returned (.bool (mm.step z).1) ∧ ROff w' base b (mm.step z).2 (N + 1) P ∧ Below base w w' ∧ ∀ k ∈ P, w'.heap[k]? = w.heap[k]? := by
  obtain ⟨own, xs, mv, tv, ev, h1, h2, h3⟩ := h
  refine (rstep_any h1 h2 hN z).mono ?_
  rintro r w' ⟨rfl, hg⟩
  exact ⟨rfl, RGoes.off h1 h3 hg (h2.step z)⟩
theorem rflush_o {P : List Nat} (h : ROff w base b mm N P) (z : Int) :
    Calls Tryz.prog 16 #[.pointer (some ⟨b, 0, none⟩), .int .i64 z] w fun r w' => r = .returned (.bool (mm.flush z).1) ∧ ROff w' base b (mm.flush z).2 N P ∧ Below base w w' ∧ ∀ k ∈ P, w'.heap[k]? = w.heap[k]? := by
  obtain ⟨own, xs, mv, tv, ev, h1, h2, h3⟩ := h
  refine (rflush_any h1 h2 z).mono ?_
  rintro r w' ⟨rfl, hg⟩
  exact ⟨rfl, RGoes.off h1 h3 hg (h2.flush z)⟩
end

end Go.Proofs.YthmmbldhbdnfpaaGreatDoor

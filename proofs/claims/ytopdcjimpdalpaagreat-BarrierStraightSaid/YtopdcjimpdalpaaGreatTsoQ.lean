/- Package tso: slices.Clone. (Written by mktsoq.py.) -/
import Derived.Test.YtopdcjimpdalpaaGreatTsoN
import Derived.Test.YtopdcjimpdalpaaGreatTsoP
namespace Go.Proofs.YtopdcjimpdalpaaGreat
open Go.RowKit
set_option linter.unusedVariables false
set_option linter.unusedSimpArgs false

variable {w w' : World}

theorem eqlNilT {t e : TypeId} (h : Tryz.prog.underlying t = some (.slice e)) (w : World) (a : Option Addr) (l c : Nat) : Sem.run Tryz.prog (binOp .eql t (.slice a l c) (.slice none 0 0)) w = .ok (.bool a.isNone) w := by
  simp only [binOp]
  simp [run_equal_slice_nil w t e a l c h]
theorem opInfo2 : (Tryz.prog.info? 107).map (fun i => (i.zero, i.size, i.bytes)) = some (some (.agg #[.int .u8 0, .int .u8 0, .int .u8 0, .int .u8 0, .int .u8 0, .int .i64 0]), 6, 16) := by kernel_rfl
theorem i64Info2 : (Tryz.prog.info? 2).map (fun i => (i.zero, i.size, i.bytes)) = some (some (.int .i64 0), 1, 8) := by kernel_rfl
theorem evInfo2 : (Tryz.prog.info? 127).map (fun i => (i.zero, i.size, i.bytes)) = some (some (.agg #[.int .i64 0, .int .u8 0, .int .i64 0, .int .i64 0]), 4, 32) := by kernel_rfl
theorem one_opD (x : OpD) : ∀ u ∈ encOp x, u.oneCell' = true := by
  intro u hu
  simp [encOp] at hu
  rcases hu with rfl | rfl | rfl | rfl | rfl | rfl <;> rfl
theorem one_evD (x : Ev) : ∀ u ∈ encEv x, u.oneCell' = true := by
  intro u hu
  simp [encEv] at hu
  rcases hu with rfl | rfl | rfl | rfl <;> rfl
theorem one_iD (x : Int) : ∀ u ∈ encI x, u.oneCell' = true := by
  intro u hu
  simp [encI] at hu
  rcases hu with rfl
  rfl
theorem one_flat {α : Type} {enc : α → List Value} (h : ∀ a, ∀ u ∈ enc a, u.oneCell' = true) (l : List α) : ∀ u ∈ l.flatMap enc, u.oneCell' = true := by
  intro u hu
  obtain ⟨a, _, ha⟩ := List.mem_flatMap.1 hu
  exact h a u ha
theorem addr_addT (b off i : Nat) : (⟨b, off, none⟩ : Addr).add i = ⟨b, off + i, none⟩ := by unfold Addr.add; split <;> simp_all
/-- what is read, behind an alloc, as append asks for it -/
theorem read_at {α : Type} {enc : α → List Value} {sz : Nat} {ad : Addr} {n cap : Nat} {l : List α} (h : RdT enc w sz (.slice (some ad) n cap) l) (ob : Obj) : ∀ j u, (l.flatMap enc)[j]? = some u → (w.alloc ob).cell? (ad.add j) = some u := by
  obtain ⟨h1, ao, cap', h2, h3, h4⟩ := h
  simp only [Value.slice.injEq] at h2
  obtain ⟨e1, e2, e3⟩ := h2
  intro j u hj
  have hn : 0 < l.length := by
    rcases Nat.eq_zero_or_pos l.length with e | e
    · rw [List.length_eq_zero_iff.1 e] at hj; simp at hj
    · exact e
  obtain ⟨b, off, rfl, hb, hc⟩ := h4 hn
  cases e1
  rw [addr_addT]
  have := hc j u hj
  rw [World.cell?_of_block (w := w) (heap_alloc_old w ob hb)]
  exact this

/-- what Clone leaves: a row of its own -/
def CloneRow {α : Type} (E : TypeId) (sz : Nat) (enc : α → List Value) (l : List α) (w : World) (r : Ending) (w' : World) : Prop :=
  ∃ cv, r = .returned cv ∧ w'.ownsRow w.heap.size E sz cv l.length (l.flatMap enc) ∧ Below w.heap.size w w'


set_option maxRecDepth 100000 in
set_option maxHeartbeats 1000000 in
theorem cloneOps_any {ao : Option Addr} {cap : Nat} {l : List OpD} (h : RdT encOp w 6 (.slice ao l.length cap) l) (hl : l.length ≤ 1000000000) :
    Calls Tryz.prog 97 #[.slice ao l.length cap] w (CloneRow 107 6 encOp l w) := by
  have H := hidI h
  have HL := hidI hl
  have hq := fun w a l c => eqlNilT Tryz.underlying57 w a l c
  clear h hl
  cases ao with
  | none =>
    go_enter Tryz.func97, Tryz.ntmps97
    go_wp2_with fail
    go_ret
    obtain ⟨h1, ao, cap', h2, h3, h4⟩ := H.out
    have hn : l.length = 0 := by
      rcases Nat.eq_zero_or_pos l.length with e | e
      · exact e
      · obtain ⟨b, off, e1, -⟩ := h4 e
        simp [e1] at h2
    rw [List.length_eq_zero_iff.1 hn]
    exact ⟨_, rfl, World.ownsRow_nil _ _ _ _, Below.refl _ _⟩
  | some ad =>
    obtain ⟨i0, hi, hz0, hz1, hz2⟩ := info_parts opInfo2
    go_enter Tryz.func97, Tryz.ntmps97
    go_wp2_with (at_builtin; refine wpList_append_d _ rfl _ _ 57 rfl w.heap.size 107 i0 _ 6 16 Tryz.underlying57 hi hz0 hz1 hz2 rfl (by decide) (.slice (some ⟨w.heap.size, 0, none⟩) 0 0) 0 [] rfl ⟨by simp, .inr ⟨w.heap.size, 0, #[], rfl, Nat.le_refl _, heap_alloc_new _ _, Nat.le_refl _, Nat.zero_le _, by simp, by simp⟩⟩ ad l.length cap (l.flatMap encOp) rfl (flat_len encOp_len l) (read_at H.out _) (one_flat one_opD l) (by have := HL.out; unfold maxLen; omega) (by have := HL.out; omega) (by simp) ?_)
    intro ao' cp w1 hown hfrom hgrown
    have HO := hidI hown
    have HB := hidI (((Below.refl w.heap.size w).alloc (Nat.le_refl _) _).grown hgrown (by simp) (fun k hk => by simp only [Value.ownBlock, Option.some.injEq] at hk; omega))
    clear hown hfrom hgrown hi hz0 hz1 hz2 hq
    go_wp2_with fail
    go_ret
    exact ⟨_, rfl, HO.out, HB.out⟩

set_option maxRecDepth 100000 in
set_option maxHeartbeats 1000000 in
theorem cloneInts_any {ao : Option Addr} {cap : Nat} {l : List Int} (h : RdT encI w 1 (.slice ao l.length cap) l) (hl : l.length ≤ 1000000000) :
    Calls Tryz.prog 107 #[.slice ao l.length cap] w (CloneRow 2 1 encI l w) := by
  have H := hidI h
  have HL := hidI hl
  have hq := fun w a l c => eqlNilT Tryz.underlying51 w a l c
  clear h hl
  cases ao with
  | none =>
    go_enter Tryz.func107, Tryz.ntmps107
    go_wp2_with fail
    go_ret
    obtain ⟨h1, ao, cap', h2, h3, h4⟩ := H.out
    have hn : l.length = 0 := by
      rcases Nat.eq_zero_or_pos l.length with e | e
      · exact e
      · obtain ⟨b, off, e1, -⟩ := h4 e
        simp [e1] at h2
    rw [List.length_eq_zero_iff.1 hn]
    exact ⟨_, rfl, World.ownsRow_nil _ _ _ _, Below.refl _ _⟩
  | some ad =>
    obtain ⟨i0, hi, hz0, hz1, hz2⟩ := info_parts i64Info2
    go_enter Tryz.func107, Tryz.ntmps107
    go_wp2_with (at_builtin; refine wpList_append_d _ rfl _ _ 51 rfl w.heap.size 2 i0 _ 1 8 Tryz.underlying51 hi hz0 hz1 hz2 rfl (by decide) (.slice (some ⟨w.heap.size, 0, none⟩) 0 0) 0 [] rfl ⟨by simp, .inr ⟨w.heap.size, 0, #[], rfl, Nat.le_refl _, heap_alloc_new _ _, Nat.le_refl _, Nat.zero_le _, by simp, by simp⟩⟩ ad l.length cap (l.flatMap encI) rfl (flat_len encI_len l) (read_at H.out _) (one_flat one_iD l) (by have := HL.out; unfold maxLen; omega) (by have := HL.out; omega) (by simp) ?_)
    intro ao' cp w1 hown hfrom hgrown
    have HO := hidI hown
    have HB := hidI (((Below.refl w.heap.size w).alloc (Nat.le_refl _) _).grown hgrown (by simp) (fun k hk => by simp only [Value.ownBlock, Option.some.injEq] at hk; omega))
    clear hown hfrom hgrown hi hz0 hz1 hz2 hq
    go_wp2_with fail
    go_ret
    exact ⟨_, rfl, HO.out, HB.out⟩

set_option maxRecDepth 100000 in
set_option maxHeartbeats 1000000 in
theorem cloneEvs_any {ao : Option Addr} {cap : Nat} {l : List Ev} (h : RdT encEv w 4 (.slice ao l.length cap) l) (hl : l.length ≤ 1000000000) :
    Calls Tryz.prog 108 #[.slice ao l.length cap] w (CloneRow 127 4 encEv l w) := by
  have H := hidI h
  have HL := hidI hl
  have hq := fun w a l c => eqlNilT Tryz.underlying53 w a l c
  clear h hl
  cases ao with
  | none =>
    go_enter Tryz.func108, Tryz.ntmps108
    go_wp2_with fail
    go_ret
    obtain ⟨h1, ao, cap', h2, h3, h4⟩ := H.out
    have hn : l.length = 0 := by
      rcases Nat.eq_zero_or_pos l.length with e | e
      · exact e
      · obtain ⟨b, off, e1, -⟩ := h4 e
        simp [e1] at h2
    rw [List.length_eq_zero_iff.1 hn]
    exact ⟨_, rfl, World.ownsRow_nil _ _ _ _, Below.refl _ _⟩
  | some ad =>
    obtain ⟨i0, hi, hz0, hz1, hz2⟩ := info_parts evInfo2
    go_enter Tryz.func108, Tryz.ntmps108
    go_wp2_with (at_builtin; refine wpList_append_d _ rfl _ _ 53 rfl w.heap.size 127 i0 _ 4 32 Tryz.underlying53 hi hz0 hz1 hz2 rfl (by decide) (.slice (some ⟨w.heap.size, 0, none⟩) 0 0) 0 [] rfl ⟨by simp, .inr ⟨w.heap.size, 0, #[], rfl, Nat.le_refl _, heap_alloc_new _ _, Nat.le_refl _, Nat.zero_le _, by simp, by simp⟩⟩ ad l.length cap (l.flatMap encEv) rfl (flat_len encEv_len l) (read_at H.out _) (one_flat one_evD l) (by have := HL.out; unfold maxLen; omega) (by have := HL.out; omega) (by simp) ?_)
    intro ao' cp w1 hown hfrom hgrown
    have HO := hidI hown
    have HB := hidI (((Below.refl w.heap.size w).alloc (Nat.le_refl _) _).grown hgrown (by simp) (fun k hk => by simp only [Value.ownBlock, Option.some.injEq] at hk; omega))
    clear hown hfrom hgrown hi hz0 hz1 hz2 hq
    go_wp2_with fail
    go_ret
    exact ⟨_, rfl, HO.out, HB.out⟩
end Go.Proofs.YtopdcjimpdalpaaGreat

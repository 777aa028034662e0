/- Put together by merge.py out of XBufA.lean.tpl, XBufB.lean.tpl, XHistSpec.lean.tpl, XTsoSpec.lean.tpl. -/
import Derived.Test.YthmmbldhbdnfpaaGreatDoorMBase
import Derived.Below
import Derived.Test.YthmmbldhbdnfpaaGreatDoorTsoI
namespace Go.Proofs.YthmmbldhbdnfpaaGreatDoor
open Go.RowKit
set_option linter.unusedVariables false
set_option linter.unusedSimpArgs false

section
/-- a buffer that New made lies in block b: its stores are q, the oldest first -/
structure Ring (w : World) (b : Nat) (q : List (Int × Int)) (c : Array Value) (f : Nat) : Prop where
  blk : w.heap[b]? = some (.cells c 184 (0, 0))
  size : c.size = 131
  f64 : f < 64
  q64 : q.length ≤ 64
  first : c[128]? = some (.int .i64 f)
  many : c[129]? = some (.int .i64 q.length)
  made : c[130]? = some (.bool true)
  ints : ∀ i, i < 64 → ∃ x y, c[i * 2]? = some (.int .i64 x) ∧ c[i * 2 + 1]? = some (.int .i64 y)
  cells : ∀ i x, q[i]? = some x → c[(f + i) % 64 * 2]? = some (.int .i64 x.1) ∧ c[(f + i) % 64 * 2 + 1]? = some (.int .i64 x.2)

/-- what New lays -/
def zeroRing : Array Value := ((List.replicate 130 (Value.int .i64 0)) ++ [Value.bool true]).toArray

def bareRing : Array Value := ((List.replicate 130 (Value.int .i64 0)) ++ [Value.bool false]).toArray
theorem zero_ring (w : World) : (zeroValue 184).run Tryz.prog w = .ok (.agg bareRing) w := by kernel_rfl
theorem bare_size : bareRing.size = 131 := by decide +kernel
theorem bare_set : bareRing.setIfInBounds 130 (.bool true) = zeroRing := by kernel_rfl

set_option maxHeartbeats 400000 in
theorem new_any (w : World) : Calls Tryz.prog 33 #[] w fun e w' => e = .returned (.pointer (some ⟨w.heap.size, 0, none⟩)) ∧ w' = w.alloc (.cells zeroRing 184) := by
  have h1 := zero_ring
  have h2 := bare_size
  have h3 := bare_set
  go_enter Tryz.func33, Tryz.ntmps33
  go_wp2
  go_ret
  exact ⟨rfl, rfl⟩

theorem zero_at (i : Nat) (h : i < 130) : zeroRing[i]? = some (.int .i64 0) := by
  unfold zeroRing
  rw [List.getElem?_toArray, List.getElem?_append_left (by rw [List.length_replicate]; exact h), List.getElem?_replicate, if_pos h]
theorem ring_new (w : World) : Ring (w.alloc (.cells zeroRing 184)) w.heap.size [] zeroRing 0 :=
  ⟨block_new _ _, by decide +kernel, by decide, by simp, zero_at 128 (by decide), zero_at 129 (by decide), by kernel_rfl,
    fun i hi => ⟨0, 0, zero_at _ (by omega), zero_at _ (by omega)⟩, fun i x h => by simp at h⟩

/-- a buffer that is not there, or that no call made -/
def NoRing (w : World) (p : Value) : Prop := p = .pointer none ∨ ∃ b c, p = .pointer (some ⟨b, 0, none⟩) ∧ w.heap[b]? = some (.cells c 184 (0, 0)) ∧ c[130]? = some (.bool false)

set_option maxHeartbeats 400000 in
theorem there_yes {w : World} {b : Nat} {q : List (Int × Int)} {c : Array Value} {f : Nat} (h : Ring w b q c f) :
    Calls Tryz.prog 194 #[.pointer (some ⟨b, 0, none⟩)] w fun e w' => e = .returned (.bool true) ∧ w' = w := by
  have c1 := cell_of_block h.blk h.made
  clear h
  go_enter Tryz.func194, Tryz.ntmps194
  go_wp2
  go_ret
  exact ⟨rfl, rfl⟩

set_option maxHeartbeats 400000 in
theorem there_no {w : World} {p : Value} (h : NoRing w p) : Calls Tryz.prog 194 #[p] w fun e w' => e = .returned (.bool false) ∧ w' = w := by
  rcases h with rfl | ⟨b, c, rfl, hb, hc⟩
  · go_enter Tryz.func194, Tryz.ntmps194
    go_wp2
    go_ret
    exact ⟨rfl, rfl⟩
  · have c1 := cell_of_block hb hc
    clear hb hc
    go_enter Tryz.func194, Tryz.ntmps194
    go_wp2
    go_ret
    exact ⟨rfl, rfl⟩

set_option maxHeartbeats 400000 in
theorem at_any {w : World} {b : Nat} {q : List (Int × Int)} {c : Array Value} {f : Nat} (h : Ring w b q c f) (i : Nat) (hi : i ≤ 64) (z : Int := i) (hz : z = i := by rfl) :
    Calls Tryz.prog 195 #[.pointer (some ⟨b, 0, none⟩), .int .i64 z] w fun e w' => e = .returned (.pointer (some ⟨b, (f + i) % 64 * 2, none⟩)) ∧ ∃ n, w' = w.drewN n := by
  subst hz
  have c1 := cell_of_block h.blk h.first
  have hf := h.f64
  clear h
  have e1 : IntKind.i64.wrap ((f : Int) + i) = f + i := IntWalk.i64_in _ (by omega)
  have e2 : ((f : Int) + i).tmod 64 = ((f + i) % 64 : Nat) := by
    rw [Int.tmod_eq_emod_of_nonneg (by omega)]; omega
  have hlt : (f + i) % 64 < 64 := Nat.mod_lt _ (by decide)
  go_enter Tryz.func195, Tryz.ntmps195
  go_wp2
  go_quiet (fail)
  go_wp2
  go_ret
  exact ⟨rfl, nq, rfl⟩

theorem Ring.drewN {w : World} {b : Nat} {q : List (Int × Int)} {c : Array Value} {f : Nat} (h : Ring w b q c f) (n : Nat) : Ring (w.drewN n) b q c f := ⟨h.blk, h.size, h.f64, h.q64, h.first, h.many, h.made, h.ints, h.cells⟩
theorem Ring.keep {w w' : World} {b : Nat} {q : List (Int × Int)} {c : Array Value} {f : Nat} (h : Ring w b q c f) (hk : w'.heap[b]? = w.heap[b]?) : Ring w' b q c f := ⟨hk.trans h.blk, h.size, h.f64, h.q64, h.first, h.many, h.made, h.ints, h.cells⟩
theorem Ring.lt {w : World} {b : Nat} {q : List (Int × Int)} {c : Array Value} {f : Nat} (h : Ring w b q c f) : b < w.heap.size := lt_of_block h.blk
theorem Ring.below {w w' : World} {b : Nat} {q : List (Int × Int)} {c : Array Value} {f : Nat} (h : Ring w b q c f) (hb : Below w.heap.size w w') : Ring w' b q c f := h.keep (hb.block _ h.lt)

set_option maxHeartbeats 400000 in
theorem len_yes {w : World} {b : Nat} {q : List (Int × Int)} {c : Array Value} {f : Nat} (h : Ring w b q c f) :
    Calls Tryz.prog 175 #[.pointer (some ⟨b, 0, none⟩)] w fun e w' => e = .returned (.int .i64 q.length) ∧ w' = w := by
  have c1 := cell_of_block h.blk h.many
  have H := hidI h
  clear h
  go_enter Tryz.func175, Tryz.ntmps175
  go_wp2_with fail
  refine (there_yes H.out).mono ?_
  rintro e w1 ⟨rfl, rfl⟩
  go_wp2
  go_ret
  exact ⟨rfl, rfl⟩

set_option maxHeartbeats 400000 in
theorem len_no {w : World} {p : Value} (h : NoRing w p) : Calls Tryz.prog 175 #[p] w fun e w' => e = .returned (.int .i64 0) ∧ w' = w := by
  have H := hidI h
  clear h
  go_enter Tryz.func175, Tryz.ntmps175
  go_wp2_with fail
  refine (there_no H.out).mono ?_
  rintro e w1 ⟨rfl, rfl⟩
  go_wp2
  go_ret
  exact ⟨rfl, rfl⟩

/-- the ring behind one store more -/
theorem ring_put {w w' : World} {b : Nat} {q : List (Int × Int)} {c : Array Value} {f : Nat} (h : Ring w b q c f) (hq : q.length < 64) (x : Int × Int)
    (hw : w'.heap[b]? = some (.cells (((c.setIfInBounds ((f + q.length) % 64 * 2) (.int .i64 x.1)).setIfInBounds ((f + q.length) % 64 * 2 + 1) (.int .i64 x.2)).setIfInBounds 129 (.int .i64 (q.length + 1))) 184 (0, 0))) :
    Ring w' b (q ++ [x]) (((c.setIfInBounds ((f + q.length) % 64 * 2) (.int .i64 x.1)).setIfInBounds ((f + q.length) % 64 * 2 + 1) (.int .i64 x.2)).setIfInBounds 129 (.int .i64 (q.length + 1))) f := by
  have hs := h.size
  have hk : (f + q.length) % 64 < 64 := Nat.mod_lt _ (by decide)
  refine ⟨hw, by simp [hs], h.f64, by simp; omega, ?_, ?_, ?_, ?_, ?_⟩
  · rw [Array.getElem?_setIfInBounds_ne (by omega), Array.getElem?_setIfInBounds_ne (by omega), Array.getElem?_setIfInBounds_ne (by omega)]; exact h.first
  · rw [Array.getElem?_setIfInBounds_self_of_lt (by simp [hs])]; simp
  · rw [Array.getElem?_setIfInBounds_ne (by omega), Array.getElem?_setIfInBounds_ne (by omega), Array.getElem?_setIfInBounds_ne (by omega)]; exact h.made
  · intro i hi
    obtain ⟨y1, y2, e1, e2⟩ := h.ints i hi
    by_cases he : i = (f + q.length) % 64
    · refine ⟨x.1, x.2, ?_, ?_⟩
      · rw [he, Array.getElem?_setIfInBounds_ne (by omega), Array.getElem?_setIfInBounds_ne (by omega), Array.getElem?_setIfInBounds_self_of_lt (by omega)]
      · rw [he, Array.getElem?_setIfInBounds_ne (by omega), Array.getElem?_setIfInBounds_self_of_lt (by simp; omega)]
    · refine ⟨y1, y2, ?_, ?_⟩
      · rw [Array.getElem?_setIfInBounds_ne (by omega), Array.getElem?_setIfInBounds_ne (by omega), Array.getElem?_setIfInBounds_ne (by omega)]; exact e1
      · rw [Array.getElem?_setIfInBounds_ne (by omega), Array.getElem?_setIfInBounds_ne (by omega), Array.getElem?_setIfInBounds_ne (by omega)]; exact e2
  · intro i y hy
    have hf := h.f64
    rcases Nat.lt_or_ge i q.length with hi | hi
    · rw [List.getElem?_append_left hi] at hy
      obtain ⟨e1, e2⟩ := h.cells i y hy
      have hne : (f + i) % 64 ≠ (f + q.length) % 64 := by omega
      refine ⟨?_, ?_⟩
      · rw [Array.getElem?_setIfInBounds_ne (by omega), Array.getElem?_setIfInBounds_ne (by omega), Array.getElem?_setIfInBounds_ne (by omega)]; exact e1
      · rw [Array.getElem?_setIfInBounds_ne (by omega), Array.getElem?_setIfInBounds_ne (by omega), Array.getElem?_setIfInBounds_ne (by omega)]; exact e2
    · rw [List.getElem?_append_right hi] at hy
      have : i = q.length := by
        have := (List.getElem?_eq_some_iff.1 hy).1
        simp at this
        omega
      subst this
      simp at hy
      subst hy
      refine ⟨?_, ?_⟩
      · rw [Array.getElem?_setIfInBounds_ne (by omega), Array.getElem?_setIfInBounds_ne (by omega), Array.getElem?_setIfInBounds_self_of_lt (by omega)]
      · rw [Array.getElem?_setIfInBounds_ne (by omega), Array.getElem?_setIfInBounds_self_of_lt (by simp; omega)]

set_option maxHeartbeats 400000 in
theorem put_full {w : World} {b : Nat} {q : List (Int × Int)} {c : Array Value} {f : Nat} (h : Ring w b q c f) (hq : q.length = 64) (a v : Int) :
    Calls Tryz.prog 63 #[.pointer (some ⟨b, 0, none⟩), .int .i64 a, .int .i64 v] w fun e w' => e = .returned (.bool false) ∧ w' = w := by
  have c1 := cell_of_block h.blk h.many
  rw [hq] at c1
  have H := hidI h
  clear h hq
  go_enter Tryz.func63, Tryz.ntmps63
  go_wp2_with fail
  refine (there_yes H.out).mono ?_
  rintro e w1 ⟨rfl, rfl⟩
  go_wp2
  go_ret
  exact ⟨rfl, rfl⟩

set_option maxHeartbeats 400000 in
theorem put_no {w : World} {p : Value} (h : NoRing w p) (a v : Int) :
    Calls Tryz.prog 63 #[p, .int .i64 a, .int .i64 v] w fun e w' => e = .returned (.bool false) ∧ w' = w := by
  have H := hidI h
  clear h
  go_enter Tryz.func63, Tryz.ntmps63
  go_wp2_with fail
  refine (there_no H.out).mono ?_
  rintro e w1 ⟨rfl, rfl⟩
  go_wp2
  go_ret
  exact ⟨rfl, rfl⟩

/-- what Put leaves -/
def PutPost (b : Nat) (q : List (Int × Int)) (f : Nat) (x : Int × Int) (w : World) (e : Ending) (w' : World) : Prop :=
  e = .returned (.bool true) ∧ (∃ c', Ring w' b (q ++ [x]) c' f) ∧ Chg (fun k => k = b) w w' ∧ w'.heap.size = w.heap.size

set_option maxHeartbeats 400000 in
theorem put_some {w : World} {b : Nat} {q : List (Int × Int)} {c : Array Value} {f : Nat} (h : Ring w b q c f) (hq : q.length < 64) (a v : Int) :
    Calls Tryz.prog 63 #[.pointer (some ⟨b, 0, none⟩), .int .i64 a, .int .i64 v] w (PutPost b q f (a, v) w) := by
  have c1 := cell_of_block h.blk h.many
  have c1f := free_of_block (o := 129) h.blk
  have hk : (f + q.length) % 64 < 64 := Nat.mod_lt _ (by decide)
  obtain ⟨y1, y2, e1, e2⟩ := h.ints _ hk
  have c2 := cell_of_block h.blk e1
  have c3 := cell_of_block h.blk e2
  have c2f := free_of_block (o := (f + q.length) % 64 * 2) h.blk
  have c3f := free_of_block (o := (f + q.length) % 64 * 2 + 1) h.blk
  have H := hidI h
  have tq : ((q.length : Int) == 64) = false := by rw [beq_eq_false_iff_ne]; omega
  clear h e1 e2
  go_enter Tryz.func63, Tryz.ntmps63
  go_wp2_with fail
  refine (there_yes H.out).mono ?_
  rintro e w1 ⟨rfl, rfl⟩
  go_wp2_with fail
  refine (at_any H.out q.length (by omega)).mono ?_
  rintro e w2 ⟨rfl, n, rfl⟩
  have hk1 : ¬ 129 = (f + q.length) % 64 * 2 := by omega
  have hk2 : ¬ 129 = (f + q.length) % 64 * 2 + 1 := by omega
  go_wp2
  go_ret
  exact ⟨rfl, ⟨_, ring_put H.out hq (a, v) (block_setCell _ (block_setCell _ (block_setCell _ H.out.blk)))⟩,
    ((((Chg.refl (fun k => k = b) _).drewN n).setCell (.inl rfl) _).setCell (.inl rfl) _).setCell (.inl rfl) _, by simp [World.setCell]⟩

/-- the ring behind one store less -/
theorem ring_take {w w' : World} {b : Nat} {x : Int × Int} {q : List (Int × Int)} {c : Array Value} {f : Nat} (h : Ring w b (x :: q) c f)
    (hw : w'.heap[b]? = some (.cells ((c.setIfInBounds 128 (.int .i64 ((f + 1) % 64 : Nat))).setIfInBounds 129 (.int .i64 q.length)) 184 (0, 0))) :
    Ring w' b q ((c.setIfInBounds 128 (.int .i64 ((f + 1) % 64 : Nat))).setIfInBounds 129 (.int .i64 q.length)) ((f + 1) % 64) := by
  have hs := h.size
  have hq := h.q64
  simp only [List.length_cons] at hq
  refine ⟨hw, by simp [hs], Nat.mod_lt _ (by decide), by omega, ?_, ?_, ?_, ?_, ?_⟩
  · rw [Array.getElem?_setIfInBounds_ne (by omega), Array.getElem?_setIfInBounds_self_of_lt (by omega)]
  · rw [Array.getElem?_setIfInBounds_self_of_lt (by simp [hs])]
  · rw [Array.getElem?_setIfInBounds_ne (by omega), Array.getElem?_setIfInBounds_ne (by omega)]; exact h.made
  · intro i hi
    obtain ⟨y1, y2, e1, e2⟩ := h.ints i hi
    refine ⟨y1, y2, ?_, ?_⟩
    · rw [Array.getElem?_setIfInBounds_ne (by omega), Array.getElem?_setIfInBounds_ne (by omega)]; exact e1
    · rw [Array.getElem?_setIfInBounds_ne (by omega), Array.getElem?_setIfInBounds_ne (by omega)]; exact e2
  · intro i y hy
    have hi := (List.getElem?_eq_some_iff.1 hy).1
    obtain ⟨e1, e2⟩ := h.cells (i + 1) y (by simpa using hy)
    rw [show ((f + 1) % 64 + i) % 64 = (f + (i + 1)) % 64 from by omega]
    have : (f + (i + 1)) % 64 < 64 := Nat.mod_lt _ (by decide)
    refine ⟨?_, ?_⟩
    · rw [Array.getElem?_setIfInBounds_ne (by omega), Array.getElem?_setIfInBounds_ne (by omega)]; exact e1
    · rw [Array.getElem?_setIfInBounds_ne (by omega), Array.getElem?_setIfInBounds_ne (by omega)]; exact e2

/-- what Take leaves where there is nothing -/
def TakeNone (w : World) (e : Ending) (w' : World) : Prop := e = .returned (.tuple #[.agg #[.int .i64 0, .int .i64 0], .bool false]) ∧ Below w.heap.size w w'

set_option maxHeartbeats 400000 in
theorem take_empty {w : World} {b : Nat} {c : Array Value} {f : Nat} (h : Ring w b [] c f) :
    Calls Tryz.prog 58 #[.pointer (some ⟨b, 0, none⟩)] w (TakeNone w) := by
  have c1 : ∀ o, (w.alloc o).cell? ⟨b, 129, none⟩ = some (.int .i64 0) := fun o => cell_of_block (block_alloc h.blk) h.many
  have H : ∀ o, Ring (w.alloc o) b [] c f := fun o => h.below ((Below.refl _ _).alloc (Nat.le_refl _) _)
  have HH := hidI H
  clear h H
  go_enter Tryz.func58, Tryz.ntmps58
  go_wp2_with fail
  refine (there_yes (HH.out _)).mono ?_
  rintro e w1 ⟨rfl, rfl⟩
  go_wp2
  refine bodyPost_ret (v := .tuple #[.agg #[.int .i64 0, .int .i64 0], .bool false]) (by simp [results, Tryz.results58, go_sem]) rfl ⟨rfl, (Below.refl _ _).alloc (Nat.le_refl _) _⟩

set_option maxHeartbeats 400000 in
theorem take_no {w : World} {p : Value} (h : NoRing w p) : Calls Tryz.prog 58 #[p] w (TakeNone w) := by
  have H : ∀ o, NoRing (w.alloc o) p := fun o => by
    rcases h with rfl | ⟨b, c, rfl, hb, hc⟩
    · exact .inl rfl
    · exact .inr ⟨b, c, rfl, block_alloc hb, hc⟩
  have HH := hidI H
  clear h H
  go_enter Tryz.func58, Tryz.ntmps58
  go_wp2_with fail
  refine (there_no (HH.out _)).mono ?_
  rintro e w1 ⟨rfl, rfl⟩
  go_wp2
  refine bodyPost_ret (v := .tuple #[.agg #[.int .i64 0, .int .i64 0], .bool false]) (by simp [results, Tryz.results58, go_sem]) rfl ⟨rfl, (Below.refl _ _).alloc (Nat.le_refl _) _⟩

/-- what Take leaves where there is a store -/
def TakeSome (b : Nat) (x : Int × Int) (q : List (Int × Int)) (w : World) (e : Ending) (w' : World) : Prop :=
  e = .returned (.tuple #[.agg #[.int .i64 x.1, .int .i64 x.2], .bool true]) ∧ (∃ c' f', Ring w' b q c' f') ∧ Chg (fun k => k = b) w w'

set_option maxHeartbeats 1000000 in
theorem take_some {w : World} {b : Nat} {x : Int × Int} {q : List (Int × Int)} {c : Array Value} {f : Nat} (h : Ring w b (x :: q) c f) :
    Calls Tryz.prog 58 #[.pointer (some ⟨b, 0, none⟩)] w (TakeSome b x q w) := by
  have h64 := h.q64
  simp only [List.length_cons] at h64
  have hf := h.f64
  have hb : b < w.heap.size := h.lt
  have c1 := cell_of_block h.blk h.many
  have c1f := free_of_block (o := 129) h.blk
  have c0 := cell_of_block h.blk h.first
  have c0f := free_of_block (o := 128) h.blk
  have hx := h.cells 0 x rfl
  have c2 := cell_of_block h.blk hx.1
  have c3 := cell_of_block h.blk hx.2
  simp only [Nat.add_zero] at c2 c3
  simp only [List.length_cons] at c1
  have H : ∀ o, Ring (w.alloc o) b (x :: q) c f := fun o => h.below ((Below.refl _ _).alloc (Nat.le_refl _) _)
  have HH := hidI H
  have HB := hidI h
  have tq : (((q.length + 1 : Nat) : Int) == 0) = false := by rw [beq_eq_false_iff_ne]; omega
  have e1 : ((f : Int) + 1).tmod 64 = ((f + 1) % 64 : Nat) := by
    rw [Int.tmod_eq_emod_of_nonneg (by omega)]; omega
  clear h H hx
  go_enter Tryz.func58, Tryz.ntmps58
  go_wp2_with fail
  refine (there_yes (HH.out _)).mono ?_
  rintro e w1 ⟨rfl, rfl⟩
  go_wp2_with fail
  refine (at_any (HH.out _) 0 (by omega) 0).mono ?_
  rintro e w2 ⟨rfl, n, rfl⟩
  rw [Nat.add_zero]
  have hfm : f % 64 < 64 := Nat.mod_lt _ (by decide)
  go_wp2
  have hR0 : ((w.alloc (Obj.cells #[Value.int IntKind.i64 0, Value.int IntKind.i64 0] 105)).drewN n).heap[w.heap.size]? = some (.cells #[Value.int IntKind.i64 0, Value.int IntKind.i64 0] 105 (0, 0)) := block_new _ _
  have hB0 : ((w.alloc (Obj.cells #[Value.int IntKind.i64 0, Value.int IntKind.i64 0] 105)).drewN n).heap[b]? = some (.cells c 184 (0, 0)) := block_alloc HB.out.blk
  have hne : w.heap.size ≠ b := by omega
  have hR := block_setCell (o := 1) (.int .i64 x.2) (block_setCell (o := 0) (.int .i64 x.1) (block_other (a := ⟨b, 129, none⟩) (u := .int .i64 q.length) (block_other (a := ⟨b, 128, none⟩) (u := .int .i64 (((f : Int) + 1) % 64)) hR0 hne) hne))
  have hQ := block_other (a := ⟨w.heap.size, 1, none⟩) (u := .int .i64 x.2) (block_other (a := ⟨w.heap.size, 0, none⟩) (u := .int .i64 x.1) (block_setCell (o := 129) (.int .i64 q.length) (block_setCell (o := 128) (.int .i64 (((f : Int) + 1) % 64)) hB0)) (Ne.symm hne)) (Ne.symm hne)
  have hR' := block_alloc (o := Obj.cells #[Value.int IntKind.i64 x.fst, Value.int IntKind.i64 x.snd] 105) hR
  have hQ' := block_alloc (o := Obj.cells #[Value.int IntKind.i64 x.fst, Value.int IntKind.i64 x.snd] 105) hQ
  refine bodyPost_ret (v := .tuple #[.agg #[.int .i64 x.1, .int .i64 x.2], .bool true]) ?_ rfl ?_
  · have r0 := cell_of_block (o := 0) hR' rfl
    have r1 := cell_of_block (o := 1) hR' rfl
    simp [results, Tryz.results58, go_sem, r0, r1]
  · refine ⟨rfl, ⟨_, _, ring_take HB.out (by rw [show (((f + 1) % 64 : Nat) : Int) = ((f : Int) + 1) % 64 from by omega]; exact hQ')⟩, ?_⟩
    exact (((((((Chg.refl (fun k => k = b) _).alloc _).drewN n).setCell (.inl rfl) _).setCell (.inl rfl) _).setCell (.inr (Nat.le_refl _)) _).setCell (.inr (Nat.le_refl _)) _).alloc _
end

section
/-- the youngest store of a word -/
def findS (q : List (Int × Int)) (a : Int) : Option Int := (q.reverse.find? fun c => c.1 == a).map (·.2)

theorem findS_none {q : List (Int × Int)} {a : Int} (h : ∀ (i : Nat) (x : Int × Int), q[i]? = some x → x.1 ≠ a) : findS q a = none := by
  unfold findS
  rw [Option.map_eq_none_iff, List.find?_eq_none]
  intro x hx
  obtain ⟨i, hi⟩ := List.getElem?_of_mem (List.mem_reverse.1 hx)
  simpa using h i x hi
theorem findS_some {q : List (Int × Int)} {a : Int} {k : Nat} {x : Int × Int} (hk : q[k]? = some x) (hx : x.1 = a) (h : ∀ (i : Nat) (y : Int × Int), k < i → q[i]? = some y → y.1 ≠ a) : findS q a = some x.2 := by
  have e : q.reverse = (q.drop (k + 1)).reverse ++ x :: (q.take k).reverse := by
    obtain ⟨hlt, rfl⟩ := List.getElem?_eq_some_iff.1 hk
    have : q = q.take k ++ (q[k] :: q.drop (k + 1)) := by simp
    conv => lhs; rw [this]
    simp
  unfold findS
  rw [e, List.find?_append]
  have h1 : (q.drop (k + 1)).reverse.find? (fun c => c.1 == a) = none := by
    rw [List.find?_eq_none]
    intro y hy
    obtain ⟨i, hi⟩ := List.getElem?_of_mem (List.mem_reverse.1 hy)
    rw [List.getElem?_drop] at hi
    simpa using h _ y (by omega) hi
  rw [h1]
  simp [hx]

/-- Find's answer -/
def findV (q : List (Int × Int)) (a : Int) : Value := match findS q a with
  | some v => .tuple #[.int .i64 v, .bool true]
  | none => .tuple #[.int .i64 0, .bool false]

set_option maxHeartbeats 400000 in
theorem find_no {w : World} {p : Value} (h : NoRing w p) (a : Int) :
    Calls Tryz.prog 253 #[p, .int .i64 a] w fun e w' => e = .returned (.tuple #[.int .i64 0, .bool false]) ∧ w' = w := by
  have H := hidI h
  clear h
  go_enter Tryz.func253, Tryz.ntmps253
  go_wp2_with fail
  refine (there_no H.out).mono ?_
  rintro e w1 ⟨rfl, rfl⟩
  go_wp2
  go_ret2
  exact ⟨rfl, rfl⟩

/-- Find's post -/
def FindPost (q : List (Int × Int)) (a : Int) (w : World) (e : Ending) (w' : World) : Prop := e = .returned (findV q a) ∧ ∃ n, w' = w.drewN n

set_option maxHeartbeats 1000000 in
theorem find_yes {w : World} {b : Nat} {q : List (Int × Int)} {c : Array Value} {f : Nat} (h : Ring w b q c f) (a : Int) :
    Calls Tryz.prog 253 #[.pointer (some ⟨b, 0, none⟩), .int .i64 a] w (FindPost q a w) := by
  have c1 := cell_of_block h.blk h.many
  have h64 := h.q64
  have H := hidI h
  clear h
  go_enter Tryz.func253, Tryz.ntmps253
  go_wp2_with fail
  refine (there_yes H.out).mono ?_
  rintro e w1 ⟨rfl, rfl⟩
  go_wp2_with fail
  go_loopw [6] (fun i wr => ∃ k : Nat, k ≤ q.length ∧ i = .int .i64 ((k : Int) - 1) ∧ (∃ n, wr = w1.drewN n) ∧ ∀ j y, k ≤ j → q[j]? = some y → y.1 ≠ a) (fun i _ => (intOf i + 1).toNat)
  case atStart => exact ⟨q.length, Nat.le_refl _, rfl, ⟨0, rfl⟩, fun j y hj hy => by have := (List.getElem?_eq_some_iff.1 hy).1; omega⟩
  case round =>
    obtain ⟨k, hk, rfl, ⟨n, rfl⟩, hall⟩ := hrel
    have HA := hidI hall
    clear hall
    by_cases h0 : k = 0
    · subst h0
      go_wp2
      go_ret2
      refine ⟨?_, n, rfl⟩
      unfold findV
      rw [findS_none (fun i x hx => HA.out i x (by omega) hx)]
      rfl
    · obtain ⟨m, rfl⟩ : ∃ m, k = m + 1 := ⟨k - 1, by omega⟩
      obtain ⟨x, hx⟩ := some_at (l := q) (k := m) (by omega)
      have hc := H.out.cells m x hx
      have c2 := cell_of_block H.out.blk hc.1
      have c3 := cell_of_block H.out.blk hc.2
      have HX := hidI hx
      have e1 : (((m + 1 : Nat) : Int) - 1) = m := by omega
      rw [e1]
      clear hx hc e1 h0
      go_wp2_with fail
      refine (at_any (H.out.drewN n) m (by omega)).mono ?_
      rintro e w2 ⟨rfl, n2, rfl⟩
      by_cases ha : x.1 = a
      · have ta : ((x.1 : Int) == a) = true := by rw [ha]; simp
        go_wp2
        go_ret2
        refine ⟨?_, _, rfl⟩
        unfold findV
        rw [findS_some HX.out ha (fun i y hi hy => HA.out i y (by omega) hy)]
        rfl
      · have ta : ((x.1 : Int) == a) = false := by rw [beq_eq_false_iff_ne]; exact ha
        go_wp2
        refine ⟨⟨m, by omega, rfl, ⟨_, rfl⟩, fun j y hj hy => ?_⟩, by simp [intOf]⟩
        rcases Nat.lt_or_ge m j with h | h
        · exact HA.out j y h hy
        · obtain rfl : j = m := by omega
          have := HX.out
          rw [hy] at this
          simp only [Option.some.injEq] at this
          subst this
          exact ha

set_option maxHeartbeats 400000 in
theorem all_no {w : World} {p : Value} (h : NoRing w p) :
    Calls Tryz.prog 62 #[p] w fun e w' => e = .returned (.slice none 0 0) ∧ w' = w := by
  have H := hidI h
  clear h
  go_enter Tryz.func62, Tryz.ntmps62
  go_wp2_with fail
  refine (there_no H.out).mono ?_
  rintro e w1 ⟨rfl, rfl⟩
  go_wp2
  go_ret
  exact ⟨rfl, rfl⟩

/-- All's post: a list of its own -/
def AllPost (q : List (Int × Int)) (w : World) (e : Ending) (w' : World) : Prop :=
  ∃ g, e = .returned (.slice (some ⟨g, 0, none⟩) q.length q.length) ∧ w'.ownsRow w.heap.size 105 2 (.slice (some ⟨g, 0, none⟩) q.length q.length) q.length (q.flatMap encCell) ∧ Below w.heap.size w w'

theorem Tryz.info105 : (Tryz.prog.info? 105).map (fun i => (i.zero, i.size, i.bytes)) = some (some (.agg #[.int .i64 0, .int .i64 0]), 2, 16) := by kernel_rfl

/-- the list while it is filled: k of q's stores, zeros behind -/
def filled (q : List (Int × Int)) (k : Nat) : List Value := (q.take k).flatMap encCell ++ List.replicate ((q.length - k) * 2) (.int .i64 0)

theorem made_zero (n : Nat) : (madeCells #[Value.int IntKind.i64 0, Value.int IntKind.i64 0] (n * 2)).toList = List.replicate (n * 2) (.int .i64 0) := by
  apply List.ext_getElem
  · simp [madeCells]
  · intro i h1 h2
    simp only [madeCells, Array.getElem_toList, Array.getElem_map, Array.getElem_range, List.getElem_replicate]
    show (#[Value.int IntKind.i64 0, Value.int IntKind.i64 0] : Array Value)[i % 2]! = _
    rcases Nat.mod_two_eq_zero_or_one i with h | h <;> rw [h] <;> rfl
theorem filled_zero (q : List (Int × Int)) : filled q 0 = List.replicate (q.length * 2) (.int .i64 0) := by simp [filled]
theorem filled_all (q : List (Int × Int)) : filled q q.length = q.flatMap encCell := by simp [filled]

theorem filled_split {q : List (Int × Int)} {k : Nat} {x : Int × Int} (h : q[k]? = some x) : filled q k = (q.take k).flatMap encCell ++ .int .i64 0 :: .int .i64 0 :: List.replicate ((q.length - (k + 1)) * 2) (.int .i64 0) ∧
    filled q (k + 1) = (q.take k).flatMap encCell ++ .int .i64 x.1 :: .int .i64 x.2 :: List.replicate ((q.length - (k + 1)) * 2) (.int .i64 0) ∧ ((q.take k).flatMap encCell).length = k * 2 := by
  have hk := (List.getElem?_eq_some_iff.1 h).1
  refine ⟨?_, ?_, ?_⟩
  · unfold filled
    rw [show (q.length - k) * 2 = (q.length - (k + 1)) * 2 + 1 + 1 from by omega, List.replicate_succ, List.replicate_succ]
  · unfold filled
    rw [take_snoc h, flat_snoc]
    simp [encCell]
  · rw [flat_len encCell_len, List.length_take, Nat.min_eq_left (by omega)]
theorem filled_len {q : List (Int × Int)} {k : Nat} (hk : k ≤ q.length) : (filled q k).length = q.length * 2 := by
  unfold filled
  rw [List.length_append, flat_len encCell_len, List.length_take, Nat.min_eq_left hk, List.length_replicate]
  omega

set_option maxHeartbeats 1000000 in
theorem all_yes {w : World} {b : Nat} {q : List (Int × Int)} {c : Array Value} {f : Nat} (h : Ring w b q c f) :
    Calls Tryz.prog 62 #[.pointer (some ⟨b, 0, none⟩)] w (AllPost q w) := by
  have c1 := cell_of_block h.blk h.many
  have h64 := h.q64
  have H := hidI h
  clear h
  obtain ⟨i0, hi, hz0, hz1, hz2⟩ := info_parts Tryz.info105
  go_enter Tryz.func62, Tryz.ntmps62
  go_wp2_with fail
  refine (there_yes H.out).mono ?_
  rintro e w1 ⟨rfl, rfl⟩
  go_wp2_with (at_make; refine wpList_make_full _ rfl _ _ 23 rfl w1.heap.size 105 i0 _ 2 Tryz.underlying23 hi hz0 hz1 _ _ _ _ q.length rfl rfl rfl rfl ?b1 ?b2 ?b3 ?_)
  case b1 => rw [hz2]; omega
  case b2 => unfold maxLen; omega
  case b3 => exact Nat.le_refl _
  intro w2 hown hgrow
  have hcells : (madeCells #[Value.int IntKind.i64 0, Value.int IntKind.i64 0] (q.length * 2)).toList = filled q 0 := by
    rw [filled_zero]; exact made_zero _
  rw [hcells] at hown
  have hg := (own_full hown).1
  have hbel : Below w1.heap.size w1 w2 := (Below.refl _ _).grown hgrow (Nat.le_refl _) (fun k hk => by cases hk)
  have HG := hidI hg
  clear hown hcells hg hgrow
  go_wp2_with fail
  go_loopw [15] (fun i wr => ∃ k : Nat, k ≤ q.length ∧ i = .int .i64 k ∧ wr.heap[w1.heap.size]? = some (.cells (filled q k).toArray 105 (0, 0)) ∧ Below w1.heap.size w1 wr) (fun i _ => q.length - (intOf i).toNat)
  case atStart => exact ⟨0, Nat.zero_le _, rfl, HG.out, hbel⟩
  case round =>
    obtain ⟨k, hk, rfl, hblk, hbr⟩ := hrel
    have HK := hidI hblk
    by_cases hlt : k < q.length
    · obtain ⟨x, hx⟩ := some_at hlt
      obtain ⟨s1, s2, s3⟩ := filled_split hx
      have hR := H.out.below hbr
      have hc := hR.cells k x hx
      have c2 := cell_of_block hR.blk hc.1
      have c3 := cell_of_block hR.blk hc.2
      have d2 : wr.cell? ⟨w1.heap.size, k * 2, none⟩ = some (.int .i64 0) := cell_of_block hblk (by rw [s1]; simp [s3])
      have d3 : wr.cell? ⟨w1.heap.size, k * 2 + 1, none⟩ = some (.int .i64 0) := cell_of_block hblk (by rw [s1]; simp [s3])
      have f2 := free_of_block (o := k * 2) hblk
      have f3 := free_of_block (o := k * 2 + 1) hblk
      have HR := hidI hR
      have HS := hidI (show filled q (k + 1) = _ from s2)
      have HS1 := hidI s1
      have HS3 := hidI s3
      clear hx hc hR s1 s2 s3 hblk
      go_wp2_with fail
      refine (at_any HR.out k (by omega)).mono ?_
      rintro e w3 ⟨rfl, n, rfl⟩
      go_wp2_with fail
      refine ⟨⟨k + 1, by omega, by go_num, ?_, ?_⟩, by simp [intOf]; omega⟩
      · rw [HS.out, ← set2 _ (.int .i64 0) (.int .i64 0) _ _ _ _ HS3.out, ← HS1.out]
        exact block_setCell _ (block_setCell _ HK.out)
      · exact ((below_drewN hbr n).setCell (Nat.le_refl _) _).setCell (Nat.le_refl _) _
    · obtain rfl : k = q.length := by omega
      clear hk hlt
      rw [filled_all] at hblk
      have HQ := hidI hblk
      clear hblk HK
      go_wp2
      go_ret
      exact ⟨w1.heap.size, rfl, own_of_full HQ.out (Nat.le_refl _) (by unfold maxLen; omega) (flat_len encCell_len q), hbr⟩
end

section
structure Ev where
  th : Int
  k : Int
  a : Int
  b : Int

structure Att where
  th : Int
  kind : Int
  beg : Int
  fin : Int
  clock : Int
  place : Int
  writer : Bool
  done : List Ev

/-- attempts in the order in which they begin; each thread's open one; whether it has ended -/
structure HS where
  atts : List Att
  opn : Nat → Option Nat
  ended : Nat → Bool

def HS.init : HS := ⟨[], fun _ => none, fun _ => false⟩
def upd {α : Type} (f : Nat → α) (i : Nat) (x : α) : Nat → α := fun j => if j = i then x else f j

def begun (x : Ev) (i : Nat) : Att := ⟨x.th, 0, i, -1, x.a, 0, false, []⟩
def more (x : Ev) (a : Att) : Att := { a with done := a.done ++ [x] }
def committed (x : Ev) (i : Nat) (a : Att) : Att := { a with kind := 1, fin := i, place := x.a, writer := x.b == 1 }
def closed (n : Int) (i : Nat) (a : Att) : Att := { a with kind := n, fin := i }

/-- one event more; none: it may not stand there -/
def stepH (s : HS) (x : Ev) (i : Nat) : Option HS :=
  if x.th < 0 ∨ 4 ≤ x.th then none
  else if s.ended x.th.toNat = true then none
  else match s.opn x.th.toNat with
    | none =>
      if x.k = 1 then some ⟨s.atts ++ [begun x i], upd s.opn x.th.toNat (some s.atts.length), s.ended⟩
      else if x.k = 9 then some s
      else if x.k = 10 ∨ x.k = 11 then some ⟨s.atts, s.opn, upd s.ended x.th.toNat true⟩
      else none
    | some j =>
      if 2 ≤ x.k ∧ x.k ≤ 6 then some ⟨s.atts.modify j (more x), s.opn, s.ended⟩
      else if x.k = 7 then some ⟨s.atts.modify j (committed x i), upd s.opn x.th.toNat none, s.ended⟩
      else if x.k = 8 then some ⟨s.atts.modify j (closed 2 i), upd s.opn x.th.toNat none, s.ended⟩
      else if x.k = 11 then some ⟨s.atts.modify j (closed 3 i), upd s.opn x.th.toNat none, upd s.ended x.th.toNat true⟩
      else none

/-- all events from place i on; the first that may not stand there -/
def runH : List Ev → Nat → HS → HS ⊕ Nat
  | [], _, s => .inl s
  | x :: l, i, s => match stepH s x i with
    | none => .inr i
    | some s' => runH l (i + 1) s'

theorem runH_append (l m : List Ev) : ∀ (i : Nat) (s : HS), runH (l ++ m) i s = match runH l i s with
    | .inl s' => runH m (i + l.length) s'
    | .inr k => .inr k := by
  induction l with
  | nil => intro i s; simp [runH]
  | cons x l ih =>
    intro i s
    simp only [List.cons_append, runH]
    cases stepH s x i with
    | none => rfl
    | some s' =>
      simp only
      rw [ih, show i + 1 + l.length = i + (x :: l).length from by simp; omega]

/-- where a run fails, and that its beginnings up to there do not -/
theorem runH_fail (l : List Ev) : ∀ (i : Nat) (s : HS) (k : Nat), runH l i s = .inr k → i ≤ k ∧ k < i + l.length ∧
    ∀ n, (n ≤ k - i → ∃ s', runH (l.take n) i s = .inl s') ∧ (k - i < n → runH (l.take n) i s = .inr k) := by
  induction l with
  | nil => intro i s k h; simp [runH] at h
  | cons x l ih =>
    intro i s k h
    simp only [runH] at h
    cases hs : stepH s x i with
    | none =>
      rw [hs] at h
      simp only [Sum.inr.injEq] at h
      subst h
      refine ⟨Nat.le_refl _, by simp, fun n => ⟨fun hn => ?_, fun hn => ?_⟩⟩
      · obtain rfl : n = 0 := by omega
        exact ⟨s, rfl⟩
      · obtain ⟨m, rfl⟩ : ∃ m, n = m + 1 := ⟨n - 1, by omega⟩
        simp [runH, hs]
    | some s' =>
      rw [hs] at h
      obtain ⟨h1, h2, h3⟩ := ih _ _ _ h
      refine ⟨by omega, by simp; omega, fun n => ?_⟩
      cases n with
      | zero => exact ⟨fun _ => ⟨s, rfl⟩, fun hn => by omega⟩
      | succ m =>
        refine ⟨fun hn => ?_, fun hn => ?_⟩
        · obtain ⟨t, ht⟩ := (h3 m).1 (by omega)
          exact ⟨t, by simp [runH, hs, ht]⟩
        · simp [runH, hs, (h3 m).2 (by omega)]

/-- what is so of a state behind i events -/
structure HOk (s : HS) (i : Nat) : Prop where
  att : ∀ (j : Nat) (a : Att), s.atts[j]? = some a → 0 ≤ a.th ∧ a.th < 4 ∧ 0 ≤ a.beg ∧ a.beg < i ∧ (∀ e ∈ a.done, e.th = a.th) ∧
    (a.fin = -1 ∧ a.kind = 0 ∧ a.place = 0 ∧ a.writer = false ∧ s.opn a.th.toNat = some j ∨ a.beg < a.fin ∧ a.fin < i ∧ a.kind ≠ 0)
  opn : ∀ (t j : Nat), s.opn t = some j → ∃ a, s.atts[j]? = some a ∧ a.th = t ∧ a.fin = -1
  order : ∀ (j k : Nat) (a b : Att), j < k → s.atts[j]? = some a → s.atts[k]? = some b → a.beg < b.beg ∧ (a.th = b.th → 0 ≤ a.fin ∧ a.fin < b.beg)

theorem HOk.init : HOk HS.init 0 := ⟨fun j a h => by simp [HS.init] at h, fun t j h => by simp [HS.init] at h, fun j k a b _ h => by simp [HS.init] at h⟩

theorem upd_at {α : Type} (f : Nat → α) (i j : Nat) (x : α) : upd f i x j = if j = i then x else f j := rfl

theorem modify_at {α : Type} (l : List α) (f : α → α) (j k : Nat) : (l.modify j f)[k]? = (l[k]?).map (fun a => if k = j then f a else a) := by
  rw [List.getElem?_modify]
  cases l[k]? with
  | none => rfl
  | some a => simp only [Option.map_some]; congr 1; by_cases h : j = k <;> simp [h, eq_comm]

/-- the open attempt of a thread is turned by f, which leaves its thread and beginning -/
theorem HOk.turn {s : HS} {i : Nat} (h : HOk s i) {t j : Nat} (hj : s.opn t = some j) (f : Att → Att) (hf : ∀ a, (f a).th = a.th ∧ (f a).beg = a.beg) (o' : Nat → Option Nat) (e' : Nat → Bool)
    (ho : o' = s.opn ∧ (∀ a, (f a).fin = a.fin ∧ (f a).kind = a.kind ∧ (f a).place = a.place ∧ (f a).writer = a.writer) ∨ o' = upd s.opn t none ∧ ∀ a, (f a).fin = i ∧ (f a).kind ≠ 0)
    (hd : ∀ a : Att, a.th = (t : Int) → (∀ e ∈ a.done, e.th = a.th) → ∀ e ∈ (f a).done, e.th = a.th) : HOk ⟨s.atts.modify j f, o', e'⟩ (i + 1) := by
  obtain ⟨b, hb, hbt, hbf⟩ := h.opn t j hj
  have get : ∀ (k : Nat) (a : Att), (s.atts.modify j f)[k]? = some a → ∃ c, s.atts[k]? = some c ∧ (k = j ∧ c = b ∧ a = f b ∨ k ≠ j ∧ a = c) := by
    intro k a ha
    rw [modify_at] at ha
    cases hc : s.atts[k]? with
    | none => rw [hc] at ha; cases ha
    | some c =>
      rw [hc] at ha
      simp only [Option.map_some, Option.some.injEq] at ha
      by_cases hk : k = j
      · subst hk
        rw [hb] at hc
        simp only [Option.some.injEq] at hc
        subst hc
        rw [if_pos rfl] at ha
        exact ⟨b, rfl, .inl ⟨rfl, rfl, ha.symm⟩⟩
      · rw [if_neg hk] at ha
        exact ⟨c, rfl, .inr ⟨hk, ha.symm⟩⟩
  refine ⟨fun k a ha => ?_, fun u k hk => ?_, fun p q a c hpq ha hc => ?_⟩
  · obtain ⟨c, hc, hcase⟩ := get k a ha
    obtain ⟨a1, a2, a3, a4, a5, a6⟩ := h.att k c hc
    rcases hcase with ⟨rfl, rfl, rfl⟩ | ⟨hk, rfl⟩
    · obtain ⟨g1, g2⟩ := hf c
      refine ⟨by omega, by omega, by omega, by omega, by rw [g1]; exact hd c hbt a5, ?_⟩
      rcases ho with ⟨rfl, hs⟩ | ⟨rfl, hs⟩
      · obtain ⟨s1, s2, s3, s4⟩ := hs c
        rcases a6 with ⟨r1, r2, r3, r4, r5⟩ | r
        · exact .inl ⟨by omega, by omega, by omega, by rw [s4]; exact r4, by rw [g1]; exact r5⟩
        · omega
      · obtain ⟨s1, s2⟩ := hs c
        exact .inr ⟨by omega, by omega, s2⟩
    · refine ⟨a1, a2, a3, by omega, a5, ?_⟩
      rcases a6 with ⟨r1, r2, r3, r4, r5⟩ | ⟨r1, r2, r3⟩
      · refine .inl ⟨r1, r2, r3, r4, ?_⟩
        rcases ho with ⟨rfl, _⟩ | ⟨rfl, _⟩
        · exact r5
        · show upd s.opn t none a.th.toNat = some k
          rw [upd_at, if_neg (fun e => by rw [e, hj] at r5; simp at r5; exact hk r5.symm)]
          exact r5
      · exact .inr ⟨r1, by omega, r3⟩
  · rcases ho with ⟨rfl, hs⟩ | ⟨rfl, hs⟩
    · obtain ⟨c, hc, hct, hcf⟩ := h.opn u k hk
      by_cases hkj : k = j
      · subst hkj
        rw [hb] at hc
        simp only [Option.some.injEq] at hc
        subst hc
        exact ⟨f b, by simp [hb], by rw [(hf b).1]; exact hct, by rw [(hs b).1]; exact hcf⟩
      · exact ⟨c, by simp [modify_at, hc, hkj], hct, hcf⟩
    · simp only [upd_at] at hk
      split at hk
      · cases hk
      · rename_i hut
        obtain ⟨c, hc, hct, hcf⟩ := h.opn u k hk
        have hkj : k ≠ j := fun e => by
          subst e
          rw [hb] at hc
          simp only [Option.some.injEq] at hc
          subst hc
          exact hut (by omega)
        exact ⟨c, by simp [modify_at, hc, hkj], hct, hcf⟩
  · obtain ⟨a', ha', hca⟩ := get p a ha
    obtain ⟨c', hc', hcc⟩ := get q c hc
    obtain ⟨o1, o2⟩ := h.order p q a' c' hpq ha' hc'
    have hcc' : c.th = c'.th ∧ c.beg = c'.beg := by
      rcases hcc with ⟨_, rfl, rfl⟩ | ⟨_, rfl⟩
      · exact hf _
      · exact ⟨rfl, rfl⟩
    rcases hca with ⟨rfl, rfl, rfl⟩ | ⟨_, rfl⟩
    · obtain ⟨g1, g2⟩ := hf a'
      refine ⟨by omega, fun e => ?_⟩
      have := o2 (by omega)
      omega
    · exact ⟨by omega, fun e => by have := o2 (by omega); omega⟩

theorem HOk.step {s s' : HS} {x : Ev} {i : Nat} (h : HOk s i) (hs : stepH s x i = some s') : HOk s' (i + 1) := by
  unfold stepH at hs
  by_cases c1 : x.th < 0 ∨ 4 ≤ x.th
  · rw [if_pos c1] at hs; cases hs
  rw [if_neg c1] at hs
  by_cases c2 : s.ended x.th.toNat = true
  · rw [if_pos c2] at hs; cases hs
  rw [if_neg c2] at hs
  have weak : ∀ (e' : Nat → Bool), HOk ⟨s.atts, s.opn, e'⟩ (i + 1) := fun e' =>
    ⟨fun j a ha => by
      obtain ⟨a1, a2, a3, a4, a5, a6⟩ := h.att j a ha
      refine ⟨a1, a2, a3, by omega, a5, a6.imp id (fun ⟨r1, r2, r3⟩ => ⟨r1, by omega, r3⟩)⟩, h.opn, h.order⟩
  cases ho : s.opn x.th.toNat with
  | none =>
    rw [ho] at hs
    simp only at hs
    by_cases k1 : x.k = 1
    · rw [if_pos k1] at hs
      simp only [Option.some.injEq] at hs
      subst hs
      have last : ∀ (j : Nat) (a : Att), (s.atts ++ [begun x i])[j]? = some a → s.atts[j]? = some a ∧ j < s.atts.length ∨ j = s.atts.length ∧ a = begun x i := by
        intro j a ha
        rcases Nat.lt_or_ge j s.atts.length with hj | hj
        · rw [List.getElem?_append_left hj] at ha; exact .inl ⟨ha, hj⟩
        · rw [List.getElem?_append_right hj] at ha
          have := (List.getElem?_eq_some_iff.1 ha).1
          simp at this
          obtain rfl : j = s.atts.length := by omega
          simp at ha
          exact .inr ⟨rfl, ha.symm⟩
      refine ⟨fun j a ha => ?_, fun t j hj => ?_, fun p q a c hpq ha hc => ?_⟩
      · rcases last j a ha with ⟨ha', hj⟩ | ⟨rfl, rfl⟩
        · obtain ⟨a1, a2, a3, a4, a5, a6⟩ := h.att j a ha'
          refine ⟨a1, a2, a3, by omega, a5, ?_⟩
          rcases a6 with ⟨r1, r2, r3, r4, r5⟩ | ⟨r1, r2, r3⟩
          · refine .inl ⟨r1, r2, r3, r4, ?_⟩
            show upd s.opn x.th.toNat (some s.atts.length) a.th.toNat = some j
            rw [upd_at, if_neg (fun e => by rw [e, ho] at r5; cases r5)]
            exact r5
          · exact .inr ⟨r1, by omega, r3⟩
        · refine ⟨by simp [begun]; omega, by simp [begun]; omega, by simp [begun], by simp [begun]; omega, fun e he => by simp [begun] at he, .inl ⟨rfl, rfl, rfl, rfl, ?_⟩⟩
          simp [upd_at, begun]
      · simp only [upd_at] at hj
        split at hj
        · rename_i ht
          simp only [Option.some.injEq] at hj
          subst hj
          exact ⟨begun x i, by simp, by simp [begun]; omega, rfl⟩
        · obtain ⟨a, ha, h2, h3⟩ := h.opn t j hj
          exact ⟨a, by rw [List.getElem?_append_left (List.getElem?_eq_some_iff.1 ha).1]; exact ha, h2, h3⟩
      · rcases last q c hc with ⟨hc', hq⟩ | ⟨rfl, rfl⟩
        · rcases last p a ha with ⟨ha', _⟩ | ⟨rfl, _⟩
          · exact h.order p q a c hpq ha' hc'
          · omega
        · rcases last p a ha with ⟨ha', _⟩ | ⟨rfl, _⟩
          · obtain ⟨a1, a2, a3, a4, a5, a6⟩ := h.att p a ha'
            refine ⟨by simp [begun]; omega, fun e => ?_⟩
            simp only [begun] at e ⊢
            rcases a6 with ⟨r1, r2, r3, r4, r5⟩ | ⟨r1, r2, r3⟩
            · rw [e, ho] at r5; cases r5
            · omega
          · omega
    · rw [if_neg k1] at hs
      by_cases k2 : x.k = 9
      · rw [if_pos k2] at hs
        simp only [Option.some.injEq] at hs
        subst hs
        exact weak s.ended
      · rw [if_neg k2] at hs
        by_cases k3 : x.k = 10 ∨ x.k = 11
        · rw [if_pos k3] at hs
          simp only [Option.some.injEq] at hs
          subst hs
          exact weak _
        · rw [if_neg k3] at hs; cases hs
  | some j =>
    rw [ho] at hs
    simp only at hs
    by_cases k1 : 2 ≤ x.k ∧ x.k ≤ 6
    · rw [if_pos k1] at hs
      simp only [Option.some.injEq] at hs
      subst hs
      refine h.turn ho (more x) (fun a => ⟨rfl, rfl⟩) _ _ (.inl ⟨rfl, fun a => ⟨rfl, rfl, rfl, rfl⟩⟩) (fun a hat hall e he => ?_)
      simp only [more, List.mem_append, List.mem_singleton] at he
      rcases he with he | rfl
      · exact hall e he
      · omega
    · rw [if_neg k1] at hs
      by_cases k2 : x.k = 7
      · rw [if_pos k2] at hs
        simp only [Option.some.injEq] at hs
        subst hs
        exact h.turn ho (committed x i) (fun a => ⟨rfl, rfl⟩) _ _ (.inr ⟨rfl, fun a => ⟨rfl, by simp [committed]⟩⟩) (fun a _ hall => hall)
      · rw [if_neg k2] at hs
        by_cases k3 : x.k = 8
        · rw [if_pos k3] at hs
          simp only [Option.some.injEq] at hs
          subst hs
          exact h.turn ho (closed 2 i) (fun a => ⟨rfl, rfl⟩) _ _ (.inr ⟨rfl, fun a => ⟨rfl, by simp [closed]⟩⟩) (fun a _ hall => hall)
        · rw [if_neg k3] at hs
          by_cases k4 : x.k = 11
          · rw [if_pos k4] at hs
            simp only [Option.some.injEq] at hs
            subst hs
            exact h.turn ho (closed 3 i) (fun a => ⟨rfl, rfl⟩) _ _ (.inr ⟨rfl, fun a => ⟨rfl, by simp [closed]⟩⟩) (fun a _ hall => hall)
          · rw [if_neg k4] at hs; cases hs

theorem HOk.run (l : List Ev) : ∀ {s s' : HS} {i : Nat}, HOk s i → runH l i s = .inl s' → HOk s' (i + l.length) := by
  induction l with
  | nil => intro s s' i h hr; simp only [runH, Sum.inl.injEq] at hr; subst hr; exact h
  | cons x l ih =>
    intro s s' i h hr
    simp only [runH] at hr
    cases hs : stepH s x i with
    | none => rw [hs] at hr; cases hr
    | some t =>
      rw [hs] at hr
      have := ih (h.step hs) hr
      rwa [show i + 1 + l.length = i + (x :: l).length from by simp; omega] at this
end

section
/-- a thread: its code, its registers, its place, its stores that wait, what it told, how it ended -/
structure MT where
  code : List OpD
  reg : Nat → Int
  at_ : Int
  wait : List (Int × Int)
  out : List Int
  fin : Int

structure MM where
  mem : List Int
  ths : List MT
  evs : List Ev

def MT.new (code : List OpD) : MT := ⟨code, fun _ => 0, 0, [], [], 0⟩
def w64 (x : Int) : Int := wrap64 x
theorem w64_in {x : Int} (h : -9223372036854775808 ≤ x ∧ x ≤ 9223372036854775807) : w64 x = x := by unfold w64 wrap64; omega
theorem w64_wrap (x : Int) : IntKind.i64.wrap x = w64 x := IntWalk.i64_left x
def truthI (b : Bool) : Int := if b = true then 1 else 0

/-- word.Do; none: it refuses -/
def calcS (c a b : Int) : Option Int :=
  if c = 1 then some (w64 (a + b))
  else if c = 2 then some (w64 (a - b))
  else if c = 3 then some (w64 (a * b))
  else if c = 4 then (if b = 0 then none else some (w64 (a.tdiv b)))
  else if c = 5 then (if b = 0 then none else some (a.tmod b))
  else if c = 6 then some (bits BinOp.and IntKind.i64 a b)
  else if c = 7 then some (bits BinOp.or IntKind.i64 a b)
  else if c = 8 then some (bits BinOp.xor IntKind.i64 a b)
  else if c = 9 then some (w64 (a * 2 ^ min (IntKind.u64.wrap (bits BinOp.and IntKind.i64 b 63)).toNat 64))
  else if c = 10 then some (w64 (IntKind.u64.wrap a / 2 ^ min (IntKind.u64.wrap (bits BinOp.and IntKind.i64 b 63)).toNat 64))
  else if c = 11 then some (truthI (a == b))
  else if c = 12 then some (truthI (a != b))
  else if c = 13 then some (truthI (decide (a < b)))
  else if c = 14 then some (truthI (decide (a ≤ b)))
  else none

def MT.r (t : MT) (i : Int) : Int := t.reg i.toNat
/-- a register is set, the place goes on -/
def MT.goes (t : MT) (i v : Int) : MT := { t with reg := upd t.reg i.toNat v, at_ := t.at_ + 1 }
def MT.next (t : MT) : MT := { t with at_ := t.at_ + 1 }

def MM.put (m : MM) (n : Nat) (t : MT) : MM := { m with ths := m.ths.set n t }
def MM.tell (m : MM) (n : Nat) (k a b : Int) : MM := { m with evs := m.evs ++ [⟨n, k, a, b⟩] }
def MM.stop (m : MM) (n : Nat) (t : MT) (k : Int) : MM := (m.put n { t with fin := k }).tell n (if k = 1 then 10 else 11) (if k = 1 then 0 else k) 0

/-- the word that an instruction names -/
def MT.word (t : MT) (o : OpD) : Option Int :=
  if o.kind = 4 ∨ o.kind = 15 then some (w64 (t.r o.b + o.n))
  else if o.kind = 5 ∨ o.kind = 8 ∨ o.kind = 9 then some (w64 (t.r o.a + o.n))
  else none
def MT.waits (t : MT) (o : OpD) : Bool :=
  if o.kind = 5 then decide (64 ≤ t.wait.length)
  else if o.kind = 8 ∨ o.kind = 9 ∨ o.kind = 10 then decide (0 < t.wait.length)
  else false
def MM.at (m : MM) (a : Int) : Int := m.mem.getD a.toNat 0
def MM.found (m : MM) (t : MT) (a : Int) : Int := (findS t.wait a).getD (m.at a)
def MM.has (m : MM) (a : Int) : Bool := decide (0 ≤ a ∧ a < m.mem.length)

/-- what an instruction does; a: the word that it names -/
def MM.act (m : MM) (n : Nat) (t : MT) (o : OpD) (a : Int) : MM :=
  if o.kind = 1 then m.put n (t.goes o.a o.n)
  else if o.kind = 2 then m.put n (t.goes o.a (t.r o.b))
  else if o.kind = 3 then (match calcS o.cal (t.r o.a) (t.r o.b) with
    | none => m.stop n t 2
    | some v => m.put n (t.goes o.a v))
  else if o.kind = 4 then m.put n (t.goes o.a (m.found t a))
  else if o.kind = 5 then m.put n { t.next with wait := t.wait ++ [(a, t.r o.b)] }
  else if o.kind = 6 then m.put n { t with at_ := o.n }
  else if o.kind = 7 then m.put n { t with at_ := if t.r o.a = 0 then o.n else t.at_ + 1 }
  else if o.kind = 8 then { m with mem := if m.at a = t.r o.b then m.mem.set a.toNat (t.r o.c) else m.mem }.put n (t.goes o.b (m.at a))
  else if o.kind = 9 then { m with mem := m.mem.set a.toNat (w64 (m.at a + t.r o.b)) }.put n (t.goes o.b (m.at a))
  else if o.kind = 10 then m.put n t.next
  else if o.kind = 11 then (m.put n { t.next with out := t.out ++ [t.r o.a] }).tell n 9 (t.r o.a) 0
  else if o.kind = 12 then (m.put n t.next).tell n o.n (t.r o.a) (t.r o.b)
  else if o.kind = 13 then m.stop n t o.n
  else if o.kind = 14 then m.stop n t 1
  else if o.kind = 15 then (m.put n (t.goes o.a (m.found t a))).tell n 1 (m.found t a) 0
  else m

/-- a thread goes on: whether it did, and the machine behind it -/
def MM.go (m : MM) (n : Nat) (t : MT) : Bool × MM :=
  match (if t.at_ < 0 then none else t.code[t.at_.toNat]?) with
  | none => (true, m.stop n t 8)
  | some o =>
    match t.word o with
    | none => if t.waits o = true then (false, m) else (true, m.act n t o 0)
    | some a => if m.has a = true then (if t.waits o = true then (false, m) else (true, m.act n t o a)) else (true, m.stop n t 8)

def MM.thr (m : MM) (z : Int) : Option MT := if z < 0 then none else m.ths[z.toNat]?
def MM.step (m : MM) (z : Int) : Bool × MM :=
  match m.thr z with
  | none => (false, m)
  | some t => if t.fin ≠ 0 then (false, m) else m.go z.toNat t
def MM.flush (m : MM) (z : Int) : Bool × MM :=
  match m.thr z with
  | none => (false, m)
  | some t => match t.wait with
    | [] => (false, m)
    | c :: r => (true, { m with mem := m.mem.set c.1.toNat c.2 }.put z.toNat { t with wait := r })
end

end Go.Proofs.YthmmbldhbdnfpaaGreatDoor

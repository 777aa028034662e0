/- Part of the proof: BufA, BufB -/
import Derived.Test.YtgodmogkhgilmaaGreatDoorP01
namespace Go.Proofs.YtgodmogkhgilmaaGreatDoor
open Go.RowKit
set_option linter.unusedVariables false
set_option linter.unusedSimpArgs false
set_option maxHeartbeats 1000000
structure Ring (w : World) (b : Nat) (q : List (Int × Int)) (c : Array Value) (f : Nat) : Prop where
  blk : w.heap[b]? = some (.cells c 382 (0, 0))
  size : c.size = 131
  f64 : f < 64
  q64 : q.length ≤ 64
  first : c[128]? = some (.int .i64 f)
  many : c[129]? = some (.int .i64 q.length)
  made : c[130]? = some (.bool true)
  ints : ∀ i, i < 64 → ∃ x y, c[i * 2]? = some (.int .i64 x) ∧ c[i * 2 + 1]? = some (.int .i64 y)
  cells : ∀ i x, q[i]? = some x → c[(f + i) % 64 * 2]? = some (.int .i64 x.1) ∧ c[(f + i) % 64 * 2 + 1]? = some (.int .i64 x.2)
def zeroRing : Array Value := ((List.replicate 130 (Value.int .i64 0)) ++ [Value.bool true]).toArray
def bareRing : Array Value := ((List.replicate 130 (Value.int .i64 0)) ++ [Value.bool false]).toArray
theorem zero_ring (w : World) : (zeroValue 382).run Tryz.prog w = .ok (.agg bareRing) w := by kernel_rfl
theorem bare_size : bareRing.size = 131 := by decide +kernel
theorem bare_set : bareRing.setIfInBounds 130 (.bool true) = zeroRing := by kernel_rfl
theorem new_any (w : World) : Calls Tryz.prog 225 #[] w fun e w' => e = .returned (.pointer (some ⟨w.heap.size, 0, none⟩)) ∧ w' = w.alloc (.cells zeroRing 382) := by
  have h1 := zero_ring
  have h2 := bare_size
  have h3 := bare_set
  go_enter Tryz.func225, Tryz.ntmps225
  go_wp2
  go_ret
  exact ⟨rfl, rfl⟩
theorem zero_at (i : Nat) (h : i < 130) : zeroRing[i]? = some (.int .i64 0) := by
  unfold zeroRing
  rw [List.getElem?_toArray, List.getElem?_append_left (by rw [List.length_replicate]; exact h), List.getElem?_replicate, if_pos h]
theorem ring_new (w : World) : Ring (w.alloc (.cells zeroRing 382)) w.heap.size [] zeroRing 0 :=
  ⟨block_new _ _, by decide +kernel, by decide, by simp, zero_at 128 (by decide), zero_at 129 (by decide), by kernel_rfl,
    fun i hi => ⟨0, 0, zero_at _ (by omega), zero_at _ (by omega)⟩, fun i x h => by simp at h⟩
theorem there_yes {w : World} {b : Nat} {q : List (Int × Int)} {c : Array Value} {f : Nat} (h : Ring w b q c f) :
    Calls Tryz.prog 262 #[.pointer (some ⟨b, 0, none⟩)] w fun e w' => e = .returned (.bool true) ∧ w' = w := by
  have c1 := cell_of_block h.blk h.made
  clear h
  go_enter Tryz.func262, Tryz.ntmps262
  go_wp2
  go_ret
  exact ⟨rfl, rfl⟩
theorem at_any {w : World} {b : Nat} {q : List (Int × Int)} {c : Array Value} {f : Nat} (h : Ring w b q c f) (i : Nat) (hi : i ≤ 64) (z : Int := i) (hz : z = i := by rfl) :
    Calls Tryz.prog 263 #[.pointer (some ⟨b, 0, none⟩), .int .i64 z] w fun e w' => e = .returned (.pointer (some ⟨b, (f + i) % 64 * 2, none⟩)) ∧ ∃ n, w' = w.drewN n := by
  subst hz
  have c1 := cell_of_block h.blk h.first
  have hf := h.f64
  clear h
  have e1 : IntKind.i64.wrap ((f : Int) + i) = f + i := IntWalk.i64_in _ (by omega)
  have e2 : ((f : Int) + i).tmod 64 = ((f + i) % 64 : Nat) := by
    rw [Int.tmod_eq_emod_of_nonneg (by omega)]; omega
  have hlt : (f + i) % 64 < 64 := Nat.mod_lt _ (by decide)
  go_enter Tryz.func263, Tryz.ntmps263
  go_wp2
  go_quiet (fail)
  go_wp2
  go_ret
  exact ⟨rfl, nq, rfl⟩
theorem Ring.drewN {w : World} {b : Nat} {q : List (Int × Int)} {c : Array Value} {f : Nat} (h : Ring w b q c f) (n : Nat) : Ring (w.drewN n) b q c f := ⟨h.blk, h.size, h.f64, h.q64, h.first, h.many, h.made, h.ints, h.cells⟩
theorem Ring.keep {w w' : World} {b : Nat} {q : List (Int × Int)} {c : Array Value} {f : Nat} (h : Ring w b q c f) (hk : w'.heap[b]? = w.heap[b]?) : Ring w' b q c f := ⟨hk.trans h.blk, h.size, h.f64, h.q64, h.first, h.many, h.made, h.ints, h.cells⟩
theorem Ring.lt {w : World} {b : Nat} {q : List (Int × Int)} {c : Array Value} {f : Nat} (h : Ring w b q c f) : b < w.heap.size := lt_of_block h.blk
theorem Ring.below {w w' : World} {b : Nat} {q : List (Int × Int)} {c : Array Value} {f : Nat} (h : Ring w b q c f) (hb : Below w.heap.size w w') : Ring w' b q c f := h.keep (hb.block _ h.lt)
theorem len_yes {w : World} {b : Nat} {q : List (Int × Int)} {c : Array Value} {f : Nat} (h : Ring w b q c f) :
    Calls Tryz.prog 246 #[.pointer (some ⟨b, 0, none⟩)] w fun e w' => e = .returned (.int .i64 q.length) ∧ w' = w := by
  have c1 := cell_of_block h.blk h.many
  have H := hidI h
  clear h
  go_enter Tryz.func246, Tryz.ntmps246
  go_wp2_with fail
  refine (there_yes H.out).mono ?_
  rintro e w1 ⟨rfl, rfl⟩
  go_wp2
  go_ret
  exact ⟨rfl, rfl⟩
theorem ring_put {w w' : World} {b : Nat} {q : List (Int × Int)} {c : Array Value} {f : Nat} (h : Ring w b q c f) (hq : q.length < 64) (x : Int × Int)
    (hw : w'.heap[b]? = some (.cells (((c.setIfInBounds ((f + q.length) % 64 * 2) (.int .i64 x.1)).setIfInBounds ((f + q.length) % 64 * 2 + 1) (.int .i64 x.2)).setIfInBounds 129 (.int .i64 (q.length + 1))) 382 (0, 0))) :
    Ring w' b (q ++ [x]) (((c.setIfInBounds ((f + q.length) % 64 * 2) (.int .i64 x.1)).setIfInBounds ((f + q.length) % 64 * 2 + 1) (.int .i64 x.2)).setIfInBounds 129 (.int .i64 (q.length + 1))) f := by
  have hs := h.size
  have hk : (f + q.length) % 64 < 64 := Nat.mod_lt _ (by decide)
  refine ⟨hw, by simp [hs], h.f64, by simp; omega, ?_, ?_, ?_, ?_, ?_⟩
  · rw [Array.getElem?_setIfInBounds_ne (by omega), Array.getElem?_setIfInBounds_ne (by omega), Array.getElem?_setIfInBounds_ne (by omega)]; exact h.first
  · rw [Array.getElem?_setIfInBounds_self_of_lt (by simp [hs])]; simp
  · rw [Array.getElem?_setIfInBounds_ne (by omega), Array.getElem?_setIfInBounds_ne (by omega), Array.getElem?_setIfInBounds_ne (by omega)]; exact h.made
  · intro i hi
    obtain ⟨y1, y2, e1, e2⟩ := h.ints i hi
    by_cases he : i = (f + q.length) % 64
    · refine ⟨x.1, x.2, ?_, ?_⟩
      · rw [he, Array.getElem?_setIfInBounds_ne (by omega), Array.getElem?_setIfInBounds_ne (by omega), Array.getElem?_setIfInBounds_self_of_lt (by omega)]
      · rw [he, Array.getElem?_setIfInBounds_ne (by omega), Array.getElem?_setIfInBounds_self_of_lt (by simp; omega)]
    · refine ⟨y1, y2, ?_, ?_⟩
      · rw [Array.getElem?_setIfInBounds_ne (by omega), Array.getElem?_setIfInBounds_ne (by omega), Array.getElem?_setIfInBounds_ne (by omega)]; exact e1
      · rw [Array.getElem?_setIfInBounds_ne (by omega), Array.getElem?_setIfInBounds_ne (by omega), Array.getElem?_setIfInBounds_ne (by omega)]; exact e2
  · intro i y hy
    have hf := h.f64
    rcases Nat.lt_or_ge i q.length with hi | hi
    · rw [List.getElem?_append_left hi] at hy
      obtain ⟨e1, e2⟩ := h.cells i y hy
      have hne : (f + i) % 64 ≠ (f + q.length) % 64 := by omega
      refine ⟨?_, ?_⟩
      · rw [Array.getElem?_setIfInBounds_ne (by omega), Array.getElem?_setIfInBounds_ne (by omega), Array.getElem?_setIfInBounds_ne (by omega)]; exact e1
      · rw [Array.getElem?_setIfInBounds_ne (by omega), Array.getElem?_setIfInBounds_ne (by omega), Array.getElem?_setIfInBounds_ne (by omega)]; exact e2
    · rw [List.getElem?_append_right hi] at hy
      have : i = q.length := by
        have := (List.getElem?_eq_some_iff.1 hy).1
        simp at this
        omega
      subst this
      simp at hy
      subst hy
      refine ⟨?_, ?_⟩
      · rw [Array.getElem?_setIfInBounds_ne (by omega), Array.getElem?_setIfInBounds_ne (by omega), Array.getElem?_setIfInBounds_self_of_lt (by omega)]
      · rw [Array.getElem?_setIfInBounds_ne (by omega), Array.getElem?_setIfInBounds_self_of_lt (by simp; omega)]
def PutPost (b : Nat) (q : List (Int × Int)) (f : Nat) (x : Int × Int) (w : World) (e : Ending) (w' : World) : Prop :=
  e = .returned (.bool true) ∧ (∃ c', Ring w' b (q ++ [x]) c' f) ∧ Chg (fun k => k = b) w w' ∧ w'.heap.size = w.heap.size
theorem put_some {w : World} {b : Nat} {q : List (Int × Int)} {c : Array Value} {f : Nat} (h : Ring w b q c f) (hq : q.length < 64) (a v : Int) :
    Calls Tryz.prog 269 #[.pointer (some ⟨b, 0, none⟩), .int .i64 a, .int .i64 v] w (PutPost b q f (a, v) w) := by
  have c1 := cell_of_block h.blk h.many
  have c1f := free_of_block (o := 129) h.blk
  have hk : (f + q.length) % 64 < 64 := Nat.mod_lt _ (by decide)
  obtain ⟨y1, y2, e1, e2⟩ := h.ints _ hk
  have c2 := cell_of_block h.blk e1
  have c3 := cell_of_block h.blk e2
  have c2f := free_of_block (o := (f + q.length) % 64 * 2) h.blk
  have c3f := free_of_block (o := (f + q.length) % 64 * 2 + 1) h.blk
  have H := hidI h
  have tq : ((q.length : Int) == 64) = false := by rw [beq_eq_false_iff_ne]; omega
  clear h e1 e2
  go_enter Tryz.func269, Tryz.ntmps269
  go_wp2_with fail
  refine (there_yes H.out).mono ?_
  rintro e w1 ⟨rfl, rfl⟩
  go_wp2_with fail
  refine (at_any H.out q.length (by omega)).mono ?_
  rintro e w2 ⟨rfl, n, rfl⟩
  have hk1 : ¬ 129 = (f + q.length) % 64 * 2 := by omega
  have hk2 : ¬ 129 = (f + q.length) % 64 * 2 + 1 := by omega
  go_wp2
  go_ret
  exact ⟨rfl, ⟨_, ring_put H.out hq (a, v) (block_setCell _ (block_setCell _ (block_setCell _ H.out.blk)))⟩,
    ((((Chg.refl (fun k => k = b) _).drewN n).setCell (.inl rfl) _).setCell (.inl rfl) _).setCell (.inl rfl) _, by simp [World.setCell]⟩
theorem ring_take {w w' : World} {b : Nat} {x : Int × Int} {q : List (Int × Int)} {c : Array Value} {f : Nat} (h : Ring w b (x :: q) c f)
    (hw : w'.heap[b]? = some (.cells ((c.setIfInBounds 128 (.int .i64 ((f + 1) % 64 : Nat))).setIfInBounds 129 (.int .i64 q.length)) 382 (0, 0))) :
    Ring w' b q ((c.setIfInBounds 128 (.int .i64 ((f + 1) % 64 : Nat))).setIfInBounds 129 (.int .i64 q.length)) ((f + 1) % 64) := by
  have hs := h.size
  have hq := h.q64
  simp only [List.length_cons] at hq
  refine ⟨hw, by simp [hs], Nat.mod_lt _ (by decide), by omega, ?_, ?_, ?_, ?_, ?_⟩
  · rw [Array.getElem?_setIfInBounds_ne (by omega), Array.getElem?_setIfInBounds_self_of_lt (by omega)]
  · rw [Array.getElem?_setIfInBounds_self_of_lt (by simp [hs])]
  · rw [Array.getElem?_setIfInBounds_ne (by omega), Array.getElem?_setIfInBounds_ne (by omega)]; exact h.made
  · intro i hi
    obtain ⟨y1, y2, e1, e2⟩ := h.ints i hi
    refine ⟨y1, y2, ?_, ?_⟩
    · rw [Array.getElem?_setIfInBounds_ne (by omega), Array.getElem?_setIfInBounds_ne (by omega)]; exact e1
    · rw [Array.getElem?_setIfInBounds_ne (by omega), Array.getElem?_setIfInBounds_ne (by omega)]; exact e2
  · intro i y hy
    have hi := (List.getElem?_eq_some_iff.1 hy).1
    obtain ⟨e1, e2⟩ := h.cells (i + 1) y (by simpa using hy)
    rw [show ((f + 1) % 64 + i) % 64 = (f + (i + 1)) % 64 from by omega]
    have : (f + (i + 1)) % 64 < 64 := Nat.mod_lt _ (by decide)
    refine ⟨?_, ?_⟩
    · rw [Array.getElem?_setIfInBounds_ne (by omega), Array.getElem?_setIfInBounds_ne (by omega)]; exact e1
    · rw [Array.getElem?_setIfInBounds_ne (by omega), Array.getElem?_setIfInBounds_ne (by omega)]; exact e2
def TakeNone (w : World) (e : Ending) (w' : World) : Prop := e = .returned (.tuple #[.agg #[.int .i64 0, .int .i64 0], .bool false]) ∧ Below w.heap.size w w'
theorem take_empty {w : World} {b : Nat} {c : Array Value} {f : Nat} (h : Ring w b [] c f) :
    Calls Tryz.prog 233 #[.pointer (some ⟨b, 0, none⟩)] w (TakeNone w) := by
  have c1 : ∀ o, (w.alloc o).cell? ⟨b, 129, none⟩ = some (.int .i64 0) := fun o => cell_of_block (block_alloc h.blk) h.many
  have H : ∀ o, Ring (w.alloc o) b [] c f := fun o => h.below ((Below.refl _ _).alloc (Nat.le_refl _) _)
  have HH := hidI H
  clear h H
  go_enter Tryz.func233, Tryz.ntmps233
  go_wp2_with fail
  refine (there_yes (HH.out _)).mono ?_
  rintro e w1 ⟨rfl, rfl⟩
  go_wp2
  refine bodyPost_ret (v := .tuple #[.agg #[.int .i64 0, .int .i64 0], .bool false]) (by simp [results, Tryz.results233, go_sem]) rfl ⟨rfl, (Below.refl _ _).alloc (Nat.le_refl _) _⟩
def TakeSome (b : Nat) (x : Int × Int) (q : List (Int × Int)) (w : World) (e : Ending) (w' : World) : Prop :=
  e = .returned (.tuple #[.agg #[.int .i64 x.1, .int .i64 x.2], .bool true]) ∧ (∃ c' f', Ring w' b q c' f') ∧ Chg (fun k => k = b) w w'
theorem take_some {w : World} {b : Nat} {x : Int × Int} {q : List (Int × Int)} {c : Array Value} {f : Nat} (h : Ring w b (x :: q) c f) :
    Calls Tryz.prog 233 #[.pointer (some ⟨b, 0, none⟩)] w (TakeSome b x q w) := by
  have h64 := h.q64
  simp only [List.length_cons] at h64
  have hf := h.f64
  have hb : b < w.heap.size := h.lt
  have c1 := cell_of_block h.blk h.many
  have c1f := free_of_block (o := 129) h.blk
  have c0 := cell_of_block h.blk h.first
  have c0f := free_of_block (o := 128) h.blk
  have hx := h.cells 0 x rfl
  have c2 := cell_of_block h.blk hx.1
  have c3 := cell_of_block h.blk hx.2
  simp only [Nat.add_zero] at c2 c3
  simp only [List.length_cons] at c1
  have H : ∀ o, Ring (w.alloc o) b (x :: q) c f := fun o => h.below ((Below.refl _ _).alloc (Nat.le_refl _) _)
  have HH := hidI H
  have HB := hidI h
  have tq : (((q.length + 1 : Nat) : Int) == 0) = false := by rw [beq_eq_false_iff_ne]; omega
  have e1 : ((f : Int) + 1).tmod 64 = ((f + 1) % 64 : Nat) := by
    rw [Int.tmod_eq_emod_of_nonneg (by omega)]; omega
  clear h H hx
  go_enter Tryz.func233, Tryz.ntmps233
  go_wp2_with fail
  refine (there_yes (HH.out _)).mono ?_
  rintro e w1 ⟨rfl, rfl⟩
  go_wp2_with fail
  refine (at_any (HH.out _) 0 (by omega) 0).mono ?_
  rintro e w2 ⟨rfl, n, rfl⟩
  rw [Nat.add_zero]
  have hfm : f % 64 < 64 := Nat.mod_lt _ (by decide)
  go_wp2
  have hR0 : ((w.alloc (Obj.cells #[Value.int IntKind.i64 0, Value.int IntKind.i64 0] 103)).drewN n).heap[w.heap.size]? = some (.cells #[Value.int IntKind.i64 0, Value.int IntKind.i64 0] 103 (0, 0)) := block_new _ _
  have hB0 : ((w.alloc (Obj.cells #[Value.int IntKind.i64 0, Value.int IntKind.i64 0] 103)).drewN n).heap[b]? = some (.cells c 382 (0, 0)) := block_alloc HB.out.blk
  have hne : w.heap.size ≠ b := by omega
  have hR := block_setCell (o := 1) (.int .i64 x.2) (block_setCell (o := 0) (.int .i64 x.1) (block_other (a := ⟨b, 129, none⟩) (u := .int .i64 q.length) (block_other (a := ⟨b, 128, none⟩) (u := .int .i64 (((f : Int) + 1) % 64)) hR0 hne) hne))
  have hQ := block_other (a := ⟨w.heap.size, 1, none⟩) (u := .int .i64 x.2) (block_other (a := ⟨w.heap.size, 0, none⟩) (u := .int .i64 x.1) (block_setCell (o := 129) (.int .i64 q.length) (block_setCell (o := 128) (.int .i64 (((f : Int) + 1) % 64)) hB0)) (Ne.symm hne)) (Ne.symm hne)
  have hR' := block_alloc (o := Obj.cells #[Value.int IntKind.i64 x.fst, Value.int IntKind.i64 x.snd] 103) hR
  have hQ' := block_alloc (o := Obj.cells #[Value.int IntKind.i64 x.fst, Value.int IntKind.i64 x.snd] 103) hQ
  refine bodyPost_ret (v := .tuple #[.agg #[.int .i64 x.1, .int .i64 x.2], .bool true]) ?_ rfl ?_
  · have r0 := cell_of_block (o := 0) hR' rfl
    have r1 := cell_of_block (o := 1) hR' rfl
    simp [results, Tryz.results233, go_sem, r0, r1]
  · refine ⟨rfl, ⟨_, _, ring_take HB.out (by rw [show (((f + 1) % 64 : Nat) : Int) = ((f : Int) + 1) % 64 from by omega]; exact hQ')⟩, ?_⟩
    exact (((((((Chg.refl (fun k => k = b) _).alloc _).drewN n).setCell (.inl rfl) _).setCell (.inl rfl) _).setCell (.inr (Nat.le_refl _)) _).setCell (.inr (Nat.le_refl _)) _).alloc _
def findS (q : List (Int × Int)) (a : Int) : Option Int := (q.reverse.find? fun c => c.1 == a).map (·.2)
theorem findS_none {q : List (Int × Int)} {a : Int} (h : ∀ (i : Nat) (x : Int × Int), q[i]? = some x → x.1 ≠ a) : findS q a = none := by
  unfold findS
  rw [Option.map_eq_none_iff, List.find?_eq_none]
  intro x hx
  obtain ⟨i, hi⟩ := List.getElem?_of_mem (List.mem_reverse.1 hx)
  simpa using h i x hi
theorem findS_some {q : List (Int × Int)} {a : Int} {k : Nat} {x : Int × Int} (hk : q[k]? = some x) (hx : x.1 = a) (h : ∀ (i : Nat) (y : Int × Int), k < i → q[i]? = some y → y.1 ≠ a) : findS q a = some x.2 := by
  have e : q.reverse = (q.drop (k + 1)).reverse ++ x :: (q.take k).reverse := by
    obtain ⟨hlt, rfl⟩ := List.getElem?_eq_some_iff.1 hk
    have : q = q.take k ++ (q[k] :: q.drop (k + 1)) := by simp
    conv => lhs; rw [this]
    simp
  unfold findS
  rw [e, List.find?_append]
  have h1 : (q.drop (k + 1)).reverse.find? (fun c => c.1 == a) = none := by
    rw [List.find?_eq_none]
    intro y hy
    obtain ⟨i, hi⟩ := List.getElem?_of_mem (List.mem_reverse.1 hy)
    rw [List.getElem?_drop] at hi
    simpa using h _ y (by omega) hi
  rw [h1]
  simp [hx]
def findV (q : List (Int × Int)) (a : Int) : Value := match findS q a with
  | some v => .tuple #[.int .i64 v, .bool true]
  | none => .tuple #[.int .i64 0, .bool false]
def FindPost (q : List (Int × Int)) (a : Int) (w : World) (e : Ending) (w' : World) : Prop := e = .returned (findV q a) ∧ ∃ n, w' = w.drewN n
theorem find_yes {w : World} {b : Nat} {q : List (Int × Int)} {c : Array Value} {f : Nat} (h : Ring w b q c f) (a : Int) :
    Calls Tryz.prog 268 #[.pointer (some ⟨b, 0, none⟩), .int .i64 a] w (FindPost q a w) := by
  have c1 := cell_of_block h.blk h.many
  have h64 := h.q64
  have H := hidI h
  clear h
  go_enter Tryz.func268, Tryz.ntmps268
  go_wp2_with fail
  refine (there_yes H.out).mono ?_
  rintro e w1 ⟨rfl, rfl⟩
  go_wp2_with fail
  go_loopw [6] (fun i wr => ∃ k : Nat, k ≤ q.length ∧ i = .int .i64 ((k : Int) - 1) ∧ (∃ n, wr = w1.drewN n) ∧ ∀ j y, k ≤ j → q[j]? = some y → y.1 ≠ a) (fun i _ => (intOf i + 1).toNat)
  case atStart => exact ⟨q.length, Nat.le_refl _, rfl, ⟨0, rfl⟩, fun j y hj hy => by have := (List.getElem?_eq_some_iff.1 hy).1; omega⟩
  case round =>
    obtain ⟨k, hk, rfl, ⟨n, rfl⟩, hall⟩ := hrel
    have HA := hidI hall
    clear hall
    by_cases h0 : k = 0
    · subst h0
      go_wp2
      go_ret2
      refine ⟨?_, n, rfl⟩
      unfold findV
      rw [findS_none (fun i x hx => HA.out i x (by omega) hx)]
      rfl
    · obtain ⟨m, rfl⟩ : ∃ m, k = m + 1 := ⟨k - 1, by omega⟩
      obtain ⟨x, hx⟩ := some_at (l := q) (k := m) (by omega)
      have hc := H.out.cells m x hx
      have c2 := cell_of_block H.out.blk hc.1
      have c3 := cell_of_block H.out.blk hc.2
      have HX := hidI hx
      have e1 : (((m + 1 : Nat) : Int) - 1) = m := by omega
      rw [e1]
      clear hx hc e1 h0
      go_wp2_with fail
      refine (at_any (H.out.drewN n) m (by omega)).mono ?_
      rintro e w2 ⟨rfl, n2, rfl⟩
      by_cases ha : x.1 = a
      · have ta : ((x.1 : Int) == a) = true := by rw [ha]; simp
        go_wp2
        go_ret2
        refine ⟨?_, _, rfl⟩
        unfold findV
        rw [findS_some HX.out ha (fun i y hi hy => HA.out i y (by omega) hy)]
        rfl
      · have ta : ((x.1 : Int) == a) = false := by rw [beq_eq_false_iff_ne]; exact ha
        go_wp2
        refine ⟨⟨m, by omega, rfl, ⟨_, rfl⟩, fun j y hj hy => ?_⟩, by simp [intOf]⟩
        rcases Nat.lt_or_ge m j with h | h
        · exact HA.out j y h hy
        · obtain rfl : j = m := by omega
          have := HX.out
          rw [hy] at this
          simp only [Option.some.injEq] at this
          subst this
          exact ha
end Go.Proofs.YtgodmogkhgilmaaGreatDoor

/- turnstileref29: event, attempt, May, Ahead, placed. (Written by mkserf.py.) -/
import Derived.Test.YtlphjkgjcfhihaaMSerA
import Derived.Test.YtlphjkgjcfhihaaHistU
import Derived.Deep.CutRange
namespace Go.Proofs.Ytlphjkgjcfhihaa
open Go.RowKit
set_option linter.unusedVariables false
set_option linter.unusedSimpArgs false

variable {w w' : World}

/-- may an attempt be? -/
structure AttFine (a : Att) : Prop where
  th : 0 ≤ a.th ∧ a.th < 4
  kind : a.kind = 0 ∧ a.fin = -1 ∨ (a.kind = 1 ∨ a.kind = 2) ∧ a.beg < a.fin
  beg : 0 ≤ a.beg
  clock : 0 ≤ a.clock
  plain : a.kind ≠ 1 → a.place = 0 ∧ a.writer = false
  evs : ∀ e ∈ a.done, e.th = a.th ∧ 0 ≤ e.a ∧ e.a < 262144 ∧ (e.k = 2 ∨ e.k = 3)
  few : a.done.length ≤ 262144

/-- attempts as they are read -/
structure AttsR (w : World) (v : Value) (ps : List (Att × Value)) : Prop where
  row : RdT enc2 w 8 v ps
  evs : ∀ p ∈ ps, RdT encEv w 4 p.2 p.1.done
theorem AttsR.below {v : Value} {ps : List (Att × Value)} (h : AttsR w v ps) (hb : Below w.heap.size w w') : AttsR w' v ps := ⟨Rd.below h.row hb, fun p hp => Rd.below (h.evs p hp) hb⟩
theorem AttsR.of {base : Nat} {v : Value} {ps : List (Att × Value)} (h : Owned w base v ps) : AttsR w v ps :=
  ⟨Rd.of_own h.row, fun p hp => by
    obtain ⟨j, hj⟩ := List.getElem?_of_mem hp
    exact Rd.of_own (h.own j p hj)⟩

set_option maxHeartbeats 1000000 in
theorem event29 (th kind beg fin clock place : Int) (wr : Bool) (dv : Value) (k a b : Int) (h0 : 0 ≤ a) (h1 : a < 262144) (hk : k = 2 ∨ k = 3) :
    Calls Try.prog 46 #[.agg #[.int .i64 th, .int .u8 kind, .int .i64 beg, .int .i64 fin, .int .i64 clock, .int .i64 place, .bool wr, dv], .agg #[.int .i64 th, .int .u8 k, .int .i64 a, .int .i64 b]] w fun e w' => e = .returned (.bool true) ∧ Below w.heap.size w w' := by
  have hz : (th != th) = false := by simp
  have h2 : ¬ a < 0 := by omega
  have h3 : ¬ 262144 ≤ a := by omega
  rcases hk with rfl | rfl
  · go_enter Try.func46, Try.ntmps46
    go_wp2_with fail
    go_ret
    exact ⟨rfl, ((Below.refl _ _).alloc (Nat.le_refl _) _).alloc (by simp) _⟩
  · go_enter Try.func46, Try.ntmps46
    go_wp2_with fail
    go_ret
    exact ⟨rfl, ((Below.refl _ _).alloc (Nat.le_refl _) _).alloc (by simp) _⟩

set_option maxHeartbeats 2000000 in
theorem attempt0 {ao : Option Addr} {cap : Nat} {done : List Ev} {th beg clock : Int} (hth : 0 ≤ th ∧ th < 4) (hbeg : 0 ≤ beg) (hclock : 0 ≤ clock)  (hev : ∀ e ∈ done, e.th = th ∧ 0 ≤ e.a ∧ e.a < 262144 ∧ (e.k = 2 ∨ e.k = 3)) (hfew : done.length ≤ 262144) (hd : RdT encEv w 4 (.slice ao done.length cap) done) :
    Calls Try.prog 34 #[.agg #[.int .i64 th, .int .u8 0, .int .i64 beg, .int .i64 (-1), .int .i64 clock, .int .i64 0, .bool false, .slice ao done.length cap]] w fun e w' => e = .returned (.bool true) ∧ Below w.heap.size w w' := by
  have HD := hidI hd
  have HEV := hidI hev
  have g1 : ¬ th < 0 := by omega
  have g2 : ¬ 4 ≤ th := by omega
  have g3 : ¬ beg < 0 := by omega
  have g4 : ¬ clock < 0 := by omega
  clear hd hev hth hbeg hclock
  have hb0 : Below w.heap.size w (w.alloc (.cells #[.int .i64 th, .int .u8 0, .int .i64 beg, .int .i64 (-1), .int .i64 clock, .int .i64 0, .bool false, .slice ao done.length cap] 73)) := (Below.refl _ _).alloc (Nat.le_refl _) _
  have HB0 := hidI hb0
  have HX0 := hidI (block_new w (.cells #[.int .i64 th, .int .u8 0, .int .i64 beg, .int .i64 (-1), .int .i64 clock, .int .i64 0, .bool false, .slice ao done.length cap] 73))
  clear hb0
  go_enter Try.func34, Try.ntmps34
  go_wp2_with fail
  obtain ⟨w0, hw0⟩ : ∃ w0, w0 = w.alloc (.cells #[.int .i64 th, .int .u8 0, .int .i64 beg, .int .i64 (-1), .int .i64 clock, .int .i64 0, .bool false, .slice ao done.length cap] 73) := ⟨_, rfl⟩
  rw [← hw0] at HB0 HX0 ⊢
  clear hw0
  go_loopw [3] (fun i wr => ∃ k : Nat, k ≤ done.length ∧ i = .int .i64 (k : Int) ∧ Hid (Below w0.heap.size w0 wr)) (fun i _ => ((done.length : Int) - intOf i).toNat)
  case atStart => exact ⟨0, by omega, rfl, hidI (Below.refl _ _)⟩
  case round =>
    obtain ⟨k, hk, rfl, HW⟩ := hrel
    have hx := blk HW.out HX0.out
    have q0 := fun t => ext_cell (cell_of_block (o := 0) hx rfl) t
    have q1 := fun t => ext_cell (cell_of_block (o := 1) hx rfl) t
    have q2 := fun t => ext_cell (cell_of_block (o := 2) hx rfl) t
    have q3 := fun t => ext_cell (cell_of_block (o := 3) hx rfl) t
    have q4 := fun t => ext_cell (cell_of_block (o := 4) hx rfl) t
    have q5 := fun t => ext_cell (cell_of_block (o := 5) hx rfl) t
    have q6 := fun t => ext_cell (cell_of_block (o := 6) hx rfl) t
    have q7 := fun t => ext_cell (cell_of_block (o := 7) hx rfl) t
    have p7 : wr.cell? ⟨w.heap.size, 7, none⟩ = some (.slice ao done.length cap) := cell_of_block hx rfl
    clear hx
    by_cases hlt : k < done.length
    · obtain ⟨⟨eth, ek, ea, eb⟩, he⟩ := some_at hlt
      obtain ⟨e1, e2, e3, e4⟩ := HEV.out _ (List.mem_of_getElem? he)
      simp only at e1 e2 e3 e4
      subst e1
      obtain ⟨b, off, rfl, hs1, hc⟩ := RdT.at encEv_len (Rd.below (Rd.below HD.out HB0.out) HW.out) he
      have x0 := fun t => ext_cell (hc 0 _ rfl) t
      have x1 := fun t => ext_cell (hc 1 _ rfl) t
      have x2 := fun t => ext_cell (hc 2 _ rfl) t
      have x3 := fun t => ext_cell (hc 3 _ rfl) t
      simp only [Nat.add_zero] at x0
      have E2 := hidI e2
      have E3 := hidI e3
      have E4 := hidI e4
      clear hc hs1 he e2 e3 e4
      go_wp2_with fail
      refine wp_region_grow (by kernel_rfl) (by kernel_rfl) ?_
      repeat (go_big_quiet_step ((first | (go_at_call 46; exact grow_of (event29 _ _ _ _ _ _ _ _ _ _ _ E2.out E3.out E4.out)))))
      refine wpQuiet_nil ?_
      intro wU hb
      have HU := hidI (HW.out.trans (hb.mono HW.out.size))
      clear hb q0 q1 q2 q3 q4 q5 q6 q7 x0 x1 x2 x3 p7
      go_wp2_with fail
      exact ⟨⟨k + 1, by omega, by go_num, HU⟩, by simp [intOf]; omega⟩
    · obtain rfl : k = done.length := by omega
      go_wp2_with fail
      go_ret
      exact ⟨rfl, HB0.out.trans (HW.out.mono HB0.out.size)⟩

set_option maxHeartbeats 2000000 in
theorem attempt1 {ao : Option Addr} {cap : Nat} {done : List Ev} {th beg fin clock place : Int} {wri : Bool} (hth : 0 ≤ th ∧ th < 4) (hbeg : 0 ≤ beg) (hclock : 0 ≤ clock) (hfin : beg < fin) (hev : ∀ e ∈ done, e.th = th ∧ 0 ≤ e.a ∧ e.a < 262144 ∧ (e.k = 2 ∨ e.k = 3)) (hfew : done.length ≤ 262144) (hd : RdT encEv w 4 (.slice ao done.length cap) done) :
    Calls Try.prog 34 #[.agg #[.int .i64 th, .int .u8 1, .int .i64 beg, .int .i64 fin, .int .i64 clock, .int .i64 place, .bool wri, .slice ao done.length cap]] w fun e w' => e = .returned (.bool true) ∧ Below w.heap.size w w' := by
  have HD := hidI hd
  have HEV := hidI hev
  have g1 : ¬ th < 0 := by omega
  have g2 : ¬ 4 ≤ th := by omega
  have g3 : ¬ beg < 0 := by omega
  have g4 : ¬ clock < 0 := by omega
  have g5 : ¬ fin ≤ beg := by omega
  clear hfin
  clear hd hev hth hbeg hclock
  have hb0 : Below w.heap.size w (w.alloc (.cells #[.int .i64 th, .int .u8 1, .int .i64 beg, .int .i64 fin, .int .i64 clock, .int .i64 place, .bool wri, .slice ao done.length cap] 73)) := (Below.refl _ _).alloc (Nat.le_refl _) _
  have HB0 := hidI hb0
  have HX0 := hidI (block_new w (.cells #[.int .i64 th, .int .u8 1, .int .i64 beg, .int .i64 fin, .int .i64 clock, .int .i64 place, .bool wri, .slice ao done.length cap] 73))
  clear hb0
  go_enter Try.func34, Try.ntmps34
  go_wp2_with fail
  obtain ⟨w0, hw0⟩ : ∃ w0, w0 = w.alloc (.cells #[.int .i64 th, .int .u8 1, .int .i64 beg, .int .i64 fin, .int .i64 clock, .int .i64 place, .bool wri, .slice ao done.length cap] 73) := ⟨_, rfl⟩
  rw [← hw0] at HB0 HX0 ⊢
  clear hw0
  go_loopw [3] (fun i wr => ∃ k : Nat, k ≤ done.length ∧ i = .int .i64 (k : Int) ∧ Hid (Below w0.heap.size w0 wr)) (fun i _ => ((done.length : Int) - intOf i).toNat)
  case atStart => exact ⟨0, by omega, rfl, hidI (Below.refl _ _)⟩
  case round =>
    obtain ⟨k, hk, rfl, HW⟩ := hrel
    have hx := blk HW.out HX0.out
    have q0 := fun t => ext_cell (cell_of_block (o := 0) hx rfl) t
    have q1 := fun t => ext_cell (cell_of_block (o := 1) hx rfl) t
    have q2 := fun t => ext_cell (cell_of_block (o := 2) hx rfl) t
    have q3 := fun t => ext_cell (cell_of_block (o := 3) hx rfl) t
    have q4 := fun t => ext_cell (cell_of_block (o := 4) hx rfl) t
    have q5 := fun t => ext_cell (cell_of_block (o := 5) hx rfl) t
    have q6 := fun t => ext_cell (cell_of_block (o := 6) hx rfl) t
    have q7 := fun t => ext_cell (cell_of_block (o := 7) hx rfl) t
    have p7 : wr.cell? ⟨w.heap.size, 7, none⟩ = some (.slice ao done.length cap) := cell_of_block hx rfl
    clear hx
    by_cases hlt : k < done.length
    · obtain ⟨⟨eth, ek, ea, eb⟩, he⟩ := some_at hlt
      obtain ⟨e1, e2, e3, e4⟩ := HEV.out _ (List.mem_of_getElem? he)
      simp only at e1 e2 e3 e4
      subst e1
      obtain ⟨b, off, rfl, hs1, hc⟩ := RdT.at encEv_len (Rd.below (Rd.below HD.out HB0.out) HW.out) he
      have x0 := fun t => ext_cell (hc 0 _ rfl) t
      have x1 := fun t => ext_cell (hc 1 _ rfl) t
      have x2 := fun t => ext_cell (hc 2 _ rfl) t
      have x3 := fun t => ext_cell (hc 3 _ rfl) t
      simp only [Nat.add_zero] at x0
      have E2 := hidI e2
      have E3 := hidI e3
      have E4 := hidI e4
      clear hc hs1 he e2 e3 e4
      go_wp2_with fail
      refine wp_region_grow (by kernel_rfl) (by kernel_rfl) ?_
      repeat (go_big_quiet_step ((first | (go_at_call 46; exact grow_of (event29 _ _ _ _ _ _ _ _ _ _ _ E2.out E3.out E4.out)))))
      refine wpQuiet_nil ?_
      intro wU hb
      have HU := hidI (HW.out.trans (hb.mono HW.out.size))
      clear hb q0 q1 q2 q3 q4 q5 q6 q7 x0 x1 x2 x3 p7
      go_wp2_with fail
      exact ⟨⟨k + 1, by omega, by go_num, HU⟩, by simp [intOf]; omega⟩
    · obtain rfl : k = done.length := by omega
      go_wp2_with fail
      go_ret
      exact ⟨rfl, HB0.out.trans (HW.out.mono HB0.out.size)⟩

set_option maxHeartbeats 2000000 in
theorem attempt2 {ao : Option Addr} {cap : Nat} {done : List Ev} {th beg fin clock : Int} (hth : 0 ≤ th ∧ th < 4) (hbeg : 0 ≤ beg) (hclock : 0 ≤ clock) (hfin : beg < fin) (hev : ∀ e ∈ done, e.th = th ∧ 0 ≤ e.a ∧ e.a < 262144 ∧ (e.k = 2 ∨ e.k = 3)) (hfew : done.length ≤ 262144) (hd : RdT encEv w 4 (.slice ao done.length cap) done) :
    Calls Try.prog 34 #[.agg #[.int .i64 th, .int .u8 2, .int .i64 beg, .int .i64 fin, .int .i64 clock, .int .i64 0, .bool false, .slice ao done.length cap]] w fun e w' => e = .returned (.bool true) ∧ Below w.heap.size w w' := by
  have HD := hidI hd
  have HEV := hidI hev
  have g1 : ¬ th < 0 := by omega
  have g2 : ¬ 4 ≤ th := by omega
  have g3 : ¬ beg < 0 := by omega
  have g4 : ¬ clock < 0 := by omega
  have g5 : ¬ fin ≤ beg := by omega
  clear hfin
  clear hd hev hth hbeg hclock
  have hb0 : Below w.heap.size w (w.alloc (.cells #[.int .i64 th, .int .u8 2, .int .i64 beg, .int .i64 fin, .int .i64 clock, .int .i64 0, .bool false, .slice ao done.length cap] 73)) := (Below.refl _ _).alloc (Nat.le_refl _) _
  have HB0 := hidI hb0
  have HX0 := hidI (block_new w (.cells #[.int .i64 th, .int .u8 2, .int .i64 beg, .int .i64 fin, .int .i64 clock, .int .i64 0, .bool false, .slice ao done.length cap] 73))
  clear hb0
  go_enter Try.func34, Try.ntmps34
  go_wp2_with fail
  obtain ⟨w0, hw0⟩ : ∃ w0, w0 = w.alloc (.cells #[.int .i64 th, .int .u8 2, .int .i64 beg, .int .i64 fin, .int .i64 clock, .int .i64 0, .bool false, .slice ao done.length cap] 73) := ⟨_, rfl⟩
  rw [← hw0] at HB0 HX0 ⊢
  clear hw0
  go_loopw [3] (fun i wr => ∃ k : Nat, k ≤ done.length ∧ i = .int .i64 (k : Int) ∧ Hid (Below w0.heap.size w0 wr)) (fun i _ => ((done.length : Int) - intOf i).toNat)
  case atStart => exact ⟨0, by omega, rfl, hidI (Below.refl _ _)⟩
  case round =>
    obtain ⟨k, hk, rfl, HW⟩ := hrel
    have hx := blk HW.out HX0.out
    have q0 := fun t => ext_cell (cell_of_block (o := 0) hx rfl) t
    have q1 := fun t => ext_cell (cell_of_block (o := 1) hx rfl) t
    have q2 := fun t => ext_cell (cell_of_block (o := 2) hx rfl) t
    have q3 := fun t => ext_cell (cell_of_block (o := 3) hx rfl) t
    have q4 := fun t => ext_cell (cell_of_block (o := 4) hx rfl) t
    have q5 := fun t => ext_cell (cell_of_block (o := 5) hx rfl) t
    have q6 := fun t => ext_cell (cell_of_block (o := 6) hx rfl) t
    have q7 := fun t => ext_cell (cell_of_block (o := 7) hx rfl) t
    have p7 : wr.cell? ⟨w.heap.size, 7, none⟩ = some (.slice ao done.length cap) := cell_of_block hx rfl
    clear hx
    by_cases hlt : k < done.length
    · obtain ⟨⟨eth, ek, ea, eb⟩, he⟩ := some_at hlt
      obtain ⟨e1, e2, e3, e4⟩ := HEV.out _ (List.mem_of_getElem? he)
      simp only at e1 e2 e3 e4
      subst e1
      obtain ⟨b, off, rfl, hs1, hc⟩ := RdT.at encEv_len (Rd.below (Rd.below HD.out HB0.out) HW.out) he
      have x0 := fun t => ext_cell (hc 0 _ rfl) t
      have x1 := fun t => ext_cell (hc 1 _ rfl) t
      have x2 := fun t => ext_cell (hc 2 _ rfl) t
      have x3 := fun t => ext_cell (hc 3 _ rfl) t
      simp only [Nat.add_zero] at x0
      have E2 := hidI e2
      have E3 := hidI e3
      have E4 := hidI e4
      clear hc hs1 he e2 e3 e4
      go_wp2_with fail
      refine wp_region_grow (by kernel_rfl) (by kernel_rfl) ?_
      repeat (go_big_quiet_step ((first | (go_at_call 46; exact grow_of (event29 _ _ _ _ _ _ _ _ _ _ _ E2.out E3.out E4.out)))))
      refine wpQuiet_nil ?_
      intro wU hb
      have HU := hidI (HW.out.trans (hb.mono HW.out.size))
      clear hb q0 q1 q2 q3 q4 q5 q6 q7 x0 x1 x2 x3 p7
      go_wp2_with fail
      exact ⟨⟨k + 1, by omega, by go_num, HU⟩, by simp [intOf]; omega⟩
    · obtain rfl : k = done.length := by omega
      go_wp2_with fail
      go_ret
      exact ⟨rfl, HB0.out.trans (HW.out.mono HB0.out.size)⟩

theorem attempt_any {x : Att} {dv : Value} (h : AttFine x) (hd : RdT encEv w 4 dv x.done) :
    Calls Try.prog 34 #[.agg #[.int .i64 x.th, .int .u8 x.kind, .int .i64 x.beg, .int .i64 x.fin, .int .i64 x.clock, .int .i64 x.place, .bool x.writer, dv]] w fun e w' => e = .returned (.bool true) ∧ Below w.heap.size w w' := by
  obtain ⟨ao, cap, rfl⟩ := Rd.shape hd
  obtain ⟨th, kind, beg, fin, clock, place, wri, done⟩ := x
  obtain ⟨h1, h2, h3, h4, h5, h6, h7⟩ := h
  simp only at h1 h2 h3 h4 h5 h6 h7 hd ⊢
  rcases h2 with ⟨rfl, rfl⟩ | ⟨rfl | rfl, hf⟩
  · obtain ⟨rfl, rfl⟩ := h5 (by decide)
    exact attempt0 h1 h3 h4 h6 h7 hd
  · exact attempt1 h1 h3 h4 hf h6 h7 hd
  · obtain ⟨rfl, rfl⟩ := h5 (by decide)
    exact attempt2 h1 h3 h4 hf h6 h7 hd

set_option maxHeartbeats 1000000 in
theorem ahead_any (a b : Att) (da db : Value) :
    Calls Try.prog 35 #[(.agg #[.int .i64 a.th, .int .u8 a.kind, .int .i64 a.beg, .int .i64 a.fin, .int .i64 a.clock, .int .i64 a.place, .bool a.writer, da]), (.agg #[.int .i64 b.th, .int .u8 b.kind, .int .i64 b.beg, .int .i64 b.fin, .int .i64 b.clock, .int .i64 b.place, .bool b.writer, db])] w fun e w' => e = .returned (.bool (ahead a b)) ∧ Below w.heap.size w w' := by
  obtain ⟨th, kind, beg, fin, clock, place, wri, done⟩ := a
  obtain ⟨th2, kind2, beg2, fin2, clock2, place2, wri2, done2⟩ := b
  unfold ahead
  simp only
  by_cases h1 : place = place2
  · subst h1
    have hz : (place != place) = false := by simp
    rw [if_neg (by simp)]
    by_cases h2 : wri = wri2
    · subst h2
      have hy : (wri != wri) = false := by simp
      rw [if_neg (by simp)]
      go_enter Try.func35, Try.ntmps35
      go_wp2_with fail
      go_ret
      exact ⟨rfl, ((Below.refl _ _).alloc (Nat.le_refl _) _).alloc (by simp) _⟩
    · rw [if_pos h2]
      cases wri with
      | true =>
        cases wri2 with
        | true => exact absurd rfl h2
        | false =>
          go_enter Try.func35, Try.ntmps35
          go_wp2_with fail
          go_ret
          exact ⟨rfl, ((Below.refl _ _).alloc (Nat.le_refl _) _).alloc (by simp) _⟩
      | false =>
        cases wri2 with
        | false => exact absurd rfl h2
        | true =>
          go_enter Try.func35, Try.ntmps35
          go_wp2_with fail
          go_ret
          exact ⟨rfl, ((Below.refl _ _).alloc (Nat.le_refl _) _).alloc (by simp) _⟩
  · have hz : (place != place2) = true := by simpa using h1
    rw [if_pos h1]
    go_enter Try.func35, Try.ntmps35
    go_wp2_with fail
    go_ret
    exact ⟨rfl, ((Below.refl _ _).alloc (Nat.le_refl _) _).alloc (by simp) _⟩

set_option maxHeartbeats 1000000 in
theorem placed_any (a : Att) (da : Value) (h1 : a.writer = true → a.clock < a.place) (h2 : a.writer = false → a.place = a.clock) :
    Calls Try.prog 22 #[(.agg #[.int .i64 a.th, .int .u8 a.kind, .int .i64 a.beg, .int .i64 a.fin, .int .i64 a.clock, .int .i64 a.place, .bool a.writer, da])] w fun e w' => e = .returned (.bool true) ∧ Below w.heap.size w w' := by
  obtain ⟨th, kind, beg, fin, clock, place, wri, done⟩ := a
  simp only at h1 h2 ⊢
  cases wri with
  | true =>
    have h3 := h1 rfl
    clear h1 h2
    go_enter Try.func22, Try.ntmps22
    go_wp2_with fail
    go_ret
    exact ⟨by simp [h3], (Below.refl _ _).alloc (Nat.le_refl _) _⟩
  | false =>
    have h3 := h2 rfl
    subst h3
    clear h1 h2
    go_enter Try.func22, Try.ntmps22
    go_wp2_with fail
    go_ret
    exact ⟨by simp, (Below.refl _ _).alloc (Nat.le_refl _) _⟩
end Go.Proofs.Ytlphjkgjcfhihaa

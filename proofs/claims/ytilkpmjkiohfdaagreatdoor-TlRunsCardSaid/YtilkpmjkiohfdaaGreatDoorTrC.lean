/- The document's Run: free, abort, begin; Stripe, Locked. -/
import Derived.Test.YtilkpmjkiohfdaaGreatDoorTrB
import Derived.Test.YtilkpmjkiohfdaaGreatDoorTlD
namespace Go.Proofs.YtilkpmjkiohfdaaGreatDoor
open Go.RowKit
set_option linter.unusedVariables false
set_option linter.unusedSimpArgs false

variable {w w' : World} {base b m t : Nat} {tw : TW} {ts : List RX} {ev : Value}

theorem RtAt.cell (h : RtAt w base b m t tw ts ev) {n : Nat} {x : RX} (hx : ts[n]? = some x) (j : Nat) (u : Value) (hu : (encRh x)[j]? = some u) : w.cell? ⟨t, n * 53 + j, none⟩ = some u :=
  cell_of_block h.ths (by rw [List.getElem?_toArray]; exact flat_at encRh_len ts hx j u hu)
theorem RtAt.free (h : RtAt w base b m t tw ts ev) (o : Nat) : w.frozen? ⟨t, o, none⟩ = false := free_of_block h.ths
theorem RtAt.wcell (h : RtAt w base b m t tw ts ev) (j : Nat) (u : Value) (hu : (encW (.slice (some ⟨m, 0, none⟩) tw.mem.length tw.mem.length) tw.clock tw.locks (.slice (some ⟨t, 0, none⟩) ts.length ts.length) ev)[j]? = some u) : w.cell? ⟨b, j, none⟩ = some u :=
  cell_of_block h.blk (by rw [List.getElem?_toArray]; exact hu)
theorem RtAt.wfree (h : RtAt w base b m t tw ts ev) (o : Nat) : w.frozen? ⟨b, o, none⟩ = false := free_of_block h.blk
theorem RtAt.base_le (h : RtAt w base b m t tw ts ev) : base ≤ w.heap.size := Nat.le_trans h.lb (Nat.le_of_lt h.blt)
theorem RtAt.ev_base (h : RtAt w base b m t tw ts ev) : ∀ k, (k = b ∨ ev.ownBlock = some k) → base ≤ k := by
  rintro k (rfl | e)
  · exact h.lb
  · exact (rowLt h.evs e).1
theorem RtAt.there (h : RtAt w base b m t tw ts ev) {n : Nat} {x : RX} (hx : ts[n]? = some x) : w.there t (n * 53) 53 := by
  intro j hj
  have hj' : j < (encRh x).length := by rw [encRh_len]; exact hj
  exact ⟨by rw [h.cell hx j _ (List.getElem?_eq_getElem hj')]; rfl, h.free _⟩
theorem RtAt.setTh (h : RtAt w base b m t tw ts ev) {n : Nat} {x : RX} (hx : ts[n]? = some x) (y : RX) :
    (w.setCells t (n * 53) (encRh y)).heap[t]? = some (.cells ((ts.set n y).flatMap encRh).toArray 360 (0, 0)) := by
  obtain ⟨A, B, hA, e1, e2⟩ := flat_cut encRh_len ts hx y
  rw [e2]
  exact setCells_block t B _ (encRh x) A _ w (by rw [← e1]; exact h.ths) hA (by rw [encRh_len, encRh_len])
theorem rthInfo : (Tryz.prog.info? 360).map (·.size) = some 53 := by kernel_rfl

def noRh : RX := ⟨Th.none, .slice none 0 0, [], 0⟩
theorem noRh_log (w : World) (base : Nat) : RLogAt w base noRh :=
  ⟨fun g h => by simp [noRh, Value.ownBlock] at h, World.ownsRow_nil _ _ _ _, rfl, ⟨Nat.le_refl _, Nat.zero_le _⟩, fun _ => rfl⟩
def begRh (tw : TW) : RX := ⟨{ Th.none with phase := 1, clock := tw.clock }, .slice none 0 0, [], 0⟩
theorem begRh_log (tw : TW) (w : World) (base : Nat) : RLogAt w base (begRh tw) :=
  ⟨fun g h => by simp [begRh, Value.ownBlock] at h, World.ownsRow_nil _ _ _ _, rfl, ⟨Nat.le_refl _, Nat.zero_le _⟩, fun _ => rfl⟩
theorem encRh_one (x : RX) (h : x.dv.oneCell' = true) : (encRh x).toArray.all (·.oneCell') = true := by
  refine Go.all_oneCell_toArray fun v hv => ?_
  simp only [encRh, bits16, ints16, List.mem_append, List.mem_cons, List.not_mem_nil, or_false, List.mem_map, List.mem_range] at hv
  rcases hv with (((((rfl | rfl) | ⟨i, _, rfl⟩) | rfl) | ⟨i, _, rfl⟩) | ⟨i, _, rfl⟩) | (rfl | rfl)
  all_goals first | rfl | exact h

set_option maxHeartbeats 400000 in
theorem rstripe_any {a : Int} (w : World) :
    Calls Tryz.prog 227 #[.int .i64 a] w fun e w' => e = .returned (.int .i64 (stripeN a : Nat)) ∧ w' = w := by
  have h : bits BinOp.and IntKind.i64 a 15 = (stripeN a : Nat) := by rw [and_15]; unfold stripeN; omega
  go_enter Tryz.func227, Tryz.ntmps227
  go_wp2
  go_ret
  exact ⟨rfl, rfl⟩

theorem tmod_zero {v : Int} : v.tmod 2 = 0 ↔ v % 2 = 0 :=
  ⟨fun h => Int.emod_eq_zero_of_dvd (Int.dvd_of_tmod_eq_zero h), fun h => Int.tmod_eq_zero_of_dvd (Int.dvd_of_emod_eq_zero h)⟩
theorem tmod_odd {v : Int} (h : isLocked v = true) : (v.tmod 2 != 0) = true := by
  have := tmod_zero (v := v)
  unfold isLocked at h
  simp only [beq_iff_eq] at h
  rw [bne_iff_ne, ne_eq, this]
  omega
theorem tmod_even {v : Int} (h : isLocked v = false) : (v.tmod 2 != 0) = false := by
  have := tmod_zero (v := v)
  unfold isLocked at h
  simp only [beq_eq_false_iff_ne, ne_eq] at h
  rw [bne_eq_false_iff_eq, this]
  omega
set_option maxHeartbeats 400000 in
theorem rlocked_yes {v : Int} (w : World) (h : isLocked v = true) :
    Calls Tryz.prog 235 #[.int .i64 v] w fun e w' => e = .returned (.tuple #[.bool true, .int .i64 (v / 2), .int .i64 0]) ∧ w' = w := by
  have h := tmod_odd h
  go_enter Tryz.func235, Tryz.ntmps235
  go_wp2
  go_ret3
  exact ⟨rfl, rfl⟩
set_option maxHeartbeats 400000 in
theorem rlocked_no {v : Int} (w : World) (h : isLocked v = false) (h0 : -9223372036854775808 ≤ v) (h1 : v ≤ 9223372036854775807) :
    Calls Tryz.prog 235 #[.int .i64 v] w fun e w' => e = .returned (.tuple #[.bool false, .int .i64 0, .int .i64 (v / 2)]) ∧ w' = w := by
  have HE := hidI (show v.tdiv 2 = v / 2 from Int.tdiv_eq_ediv_of_dvd (Int.dvd_of_emod_eq_zero (by unfold isLocked at h; simp at h; omega)))
  have h := tmod_even h
  go_enter Tryz.func235, Tryz.ntmps235
  go_wp2
  go_ret3
  rw [HE.out]
  exact ⟨rfl, rfl⟩

set_option maxRecDepth 100000 in
set_option maxHeartbeats 2000000 in
theorem rfree_any (h : RtAt w base b m t tw ts ev) {n : Nat} {x : RX} (hx : ts[n]? = some x) :
    Calls Tryz.prog 230 #[.pointer (some ⟨b, 0, none⟩), .int .i64 (n : Int)] w fun r w' => r = .returned (.tuple #[]) ∧ RtAt w' base b m t { tw with locks := freed x.th.held x.th.old tw.locks } ts ev ∧ Chg (fun k => k = b) w w' := by
  have c1 := h.wcell 18 _ rfl
  have hn : n < ts.length := (List.getElem?_eq_some_iff.1 hx).1
  have H := hidI h
  have HX := hidI hx
  clear h hx
  go_enter Tryz.func230, Tryz.ntmps230
  go_wp2_with fail
  go_loopw [5] (fun i w' => ∃ k : Nat, k ≤ 16 ∧ i = .int .i64 (k : Int) ∧ Hid (RtAt w' base b m t { tw with locks := freedK x.th.held x.th.old tw.locks k } ts ev) ∧ Hid (Chg (fun k => k = b) w w')) (fun i _ => ((16 : Int) - intOf i).toNat)
  case atStart => exact ⟨0, by omega, rfl, by rw [freedK_zero]; exact H, hidI (Chg.refl _ _)⟩
  case round =>
    obtain ⟨k, hk, rfl, HT, HC⟩ := hrel
    by_cases hlt : k < 16
    · have c3 : wr.cell? ⟨t, n * 53 + 19 + k, none⟩ = some (.bool (x.th.held.testBit k)) := by rw [Nat.add_assoc]; exact HT.out.cell HX.out _ _ (encRh_held x hlt)
      have c4 : wr.cell? ⟨t, n * 53 + 35 + k, none⟩ = some (.int .i64 (x.th.old k)) := by rw [Nat.add_assoc]; exact HT.out.cell HX.out _ _ (encRh_old x hlt)
      cases hbit : x.th.held.testBit k with
      | true =>
        rw [hbit] at c3
        have c2 := HT.out.wcell (2 + k) _ (encW_lock _ _ _ _ _ k hlt)
        have f2 := HT.out.wfree (2 + k)
        go_wp2_with fail
        have HB := hidI hbit
        clear hbit
        go_region
        all_goals go_wp2_with fail
        all_goals (
          have hset := block_setCell (o := 2 + k) (.int .i64 (x.th.old k)) HT.out.blk
          rw [encW_set _ _ _ _ _ _ k hlt, ← freedK_yes HB.out] at hset
          exact ⟨⟨k + 1, by omega, by go_num, hidI ((HT.out.world ((Chg.refl (fun k => k = b) wr).setCell (p := ⟨b, 2 + k, none⟩) (.inl rfl) _) _ _ hset).drew), hidI ((HC.out.setCell (p := ⟨b, 2 + k, none⟩) (.inl rfl) _).drew)⟩, by simp [intOf]; omega⟩)
      | false =>
        rw [hbit] at c3
        have HB := hidI hbit
        clear hbit
        go_wp2_with fail
        exact ⟨⟨k + 1, by omega, by go_num, by rw [freedK_no HB.out]; exact HT, HC⟩, by simp [intOf]; omega⟩
    · obtain rfl : k = 16 := by omega
      go_wp2_with fail
      go_end0
      exact ⟨rfl, HT.out, HC.out⟩
end Go.Proofs.YtilkpmjkiohfdaaGreatDoor

/- Package tl2: the contracts of begin, stale, find, needs. -/
import Derived.Test.YtlphjkgjcfhihaaTlD
namespace Go.Proofs.Ytlphjkgjcfhihaa
set_option linter.unusedVariables false
set_option linter.unusedSimpArgs false
open Go.RowKit

variable {w w' : World} {base b m t : Nat} {tw : TW} {ts : List (Th × Value)} {ev : Value}

def begTh (tw : TW) : Th × Value := ({ Th.none with phase := 1, clock := tw.clock }, .slice none 0 0)
theorem begTh_log (tw : TW) (w : World) (base : Nat) : LogAt w base (begTh tw) := by
  refine ⟨fun g h => ?_, Or.inl ⟨by show (1 : Int) ≠ 3; decide, World.ownsRow_nil _ _ _ _⟩⟩
  simp [begTh, Value.ownBlock] at h

set_option maxHeartbeats 1000000 in
theorem begin_any (h : TlAt w base b m t tw ts ev) {n : Nat} {x : Th × Value} (hx : ts[n]? = some x) (hlen : tw.evs.length < 70000) :
    Calls Try.prog 26 #[.pointer (some ⟨b, 0, none⟩), .int .i64 (n : Int)] w (TlDone base b m t (tw.begin n) w) := by
  have c1 := h.wcell 18 _ rfl
  have c2 := h.wcell 1 _ rfl
  have hn : n < ts.length := (List.getElem?_eq_some_iff.1 hx).1
  have H := hidI h
  have HX := hidI hx
  have HL := hidI hlen
  have q1 := h.drew.there hx
  have q4 := h.drew.thread hx (begTh tw) (Chg.setCells (.inl rfl) _ _ (Chg.refl _ w.drew)) (h.drew.setTh hx (begTh tw)) (begTh_log _ _ _) (fun g hg => by cases hg)
  obtain ⟨cs, hcs⟩ : ∃ cs : Array Value, #[.int .u8 1, .int .i64 tw.clock, .int .u16 0, .slice none 0 0, .int .u16 0, .int .i64 0, .int .i64 0, .int .i64 0, .int .i64 0, .int .i64 0, .int .i64 0, .int .i64 0, .int .i64 0, .int .i64 0, .int .i64 0, .int .i64 0, .int .i64 0, .int .i64 0, .int .i64 0, .int .i64 0, .int .i64 0, .int .i64 0] = cs := ⟨_, rfl⟩
  have hcl : cs.toList = encTh (begTh tw) := by rw [← hcs]; rfl
  have hsz : cs.size = 22 := by rw [← hcs]; rfl
  have hst : Sem.run Try.prog (storeCells ⟨t, n * 22, none⟩ cs.toList 0) w.drew = .ok () (w.drew.setCells t (n * 22) cs.toList) := by
    have := run_storeCells_cells (P := Try.prog) t (n * 22) cs.toList 0 w.drew (fun j hj => (q1 j (by simpa [hsz] using hj)).1) (fun j hj => (q1 j (by simpa [hsz] using hj)).2)
      (fun v hv => (Array.all_eq_true_iff_forall_mem.1 (encTh_one (begTh tw) rfl)) v (by rw [hcl] at hv; simpa using hv))
    simpa using this
  rw [hcl] at hst
  have c3 := q4.wcell 1 _ rfl
  have Q4 := hidI q4
  clear q1 q4
  clear h hx hlen
  go_enter Try.func26, Try.ntmps26
  go_wp2_with fail
  go_region
  go_wp2_with fail
  refine (tell_any Q4.out HL.out ⟨n, 1, tw.clock, 0⟩).mono ?_
  rintro e w1 ⟨rfl, ⟨ev', h1⟩, hc1⟩
  have H1 := hidI h1
  have HC1 := hidI hc1
  clear h1 hc1
  go_wp2_with fail
  go_end0
  refine ⟨rfl, ⟨_, ev', H1.out⟩, ?_⟩
  refine Chg.below ?_ Q4.out.base_le HC1.out Q4.out.ev_base
  exact Chg.below (S := fun k => k = t) (b := w.drew) (below_drewN (Below.refl base w) 1) H.out.base_le (Chg.setCells (S := fun k => k = t) rfl _ _ (Chg.refl _ w.drew)) (fun k hk => by rw [hk]; exact H.out.lt)

theorem odd_true {v : Int} (h : isLocked v = true) : (bits BinOp.and IntKind.i64 v 1 == 1) = true := by rw [and_1]; exact h
theorem odd_false {v : Int} (h : isLocked v = false) : (bits BinOp.and IntKind.i64 v 1 == 1) = false := by rw [and_1]; exact h

set_option maxHeartbeats 400000 in
theorem locked_yes {v : Int} (w : World) (h : isLocked v = true) :
    Calls Try.prog 48 #[.int .i64 v] w fun e w' => e = .returned (.tuple #[.bool true, .int .i64 (v / 2), .int .i64 0]) ∧ w' = w := by
  have h := odd_true h
  go_enter Try.func48, Try.ntmps48
  go_wp2
  go_ret3
  exact ⟨rfl, rfl⟩

set_option maxHeartbeats 400000 in
theorem locked_no {v : Int} (w : World) (h : isLocked v = false) :
    Calls Try.prog 48 #[.int .i64 v] w fun e w' => e = .returned (.tuple #[.bool false, .int .i64 0, .int .i64 (v / 2)]) ∧ w' = w := by
  have h := odd_false h
  go_enter Try.func48, Try.ntmps48
  go_wp2
  go_ret3
  exact ⟨rfl, rfl⟩

set_option maxHeartbeats 400000 in
theorem stripe_any {a : Int} (w : World) :
    Calls Try.prog 40 #[.int .i64 a] w fun e w' => e = .returned (.int .i64 (stripeN a : Nat)) ∧ w' = w := by
  have h : bits BinOp.and IntKind.i64 a 15 = (stripeN a : Nat) := by rw [and_15]; unfold stripeN; omega
  go_enter Try.func40, Try.ntmps40
  go_wp2
  go_ret
  exact ⟨rfl, rfl⟩

set_option maxHeartbeats 1000000 in
theorem stale_any (h : TlAt w base b m t tw ts ev) {n : Nat} {x : Th × Value} (hx : ts[n]? = some x) (hh : x.1.held < 65536) {s : Nat} (hs : s < 16) :
    Calls Try.prog 41 #[.pointer (some ⟨b, 0, none⟩), .int .i64 (n : Int), .int .i64 (s : Int)] w fun e w' => e = .returned (.bool (stale tw.locks x.1 s)) ∧ w' = w := by
  have c1 := h.wcell 18 _ rfl
  have c2 := h.wcell (2 + s) _ (encW_lock _ _ _ _ _ s hs)
  have c3 : w.cell? ⟨t, n * 22 + 4, none⟩ = some (.int .u16 x.1.held) := h.cell hx 4 _ rfl
  have c4 : w.cell? ⟨t, n * 22 + 5 + s, none⟩ = some (.int .i64 (x.1.old s)) := by rw [Nat.add_assoc]; exact h.cell hx _ _ (encTh_old x s hs)
  have c5 : w.cell? ⟨t, n * 22 + 1, none⟩ = some (.int .i64 x.1.clock) := h.cell hx 1 _ rfl
  have hn : n < ts.length := (List.getElem?_eq_some_iff.1 hx).1
  clear h hx
  by_cases hbit : x.1.held.testBit s = true
  · have hb1 : (bits BinOp.and IntKind.u16 ((x.1.held : Int) / 2 ^ s) 1 == 1) = true := (bitOf_eq hh s).trans hbit
    cases hl : isLocked (x.1.old s) with
    | true =>
      have he : stale tw.locks x.1 s = true := by simp [stale, hbit, hl]
      rw [he]
      have HL := hidI hl
      clear hl he hbit hh
      go_enter Try.func41, Try.ntmps41
      go_wp2_with fail
      refine (locked_yes w HL.out).mono ?_
      rintro e w1 ⟨rfl, rfl⟩
      go_wp2_with fail
      go_ret
      exact ⟨rfl, rfl⟩
    | false =>
      have he : stale tw.locks x.1 s = decide (x.1.clock < x.1.old s / 2) := by simp [stale, hbit, hl, since]
      rw [he]
      have HL := hidI hl
      clear hl he hbit hh
      go_enter Try.func41, Try.ntmps41
      go_wp2_with fail
      refine (locked_no w HL.out).mono ?_
      rintro e w1 ⟨rfl, rfl⟩
      go_wp2_with fail
      go_ret
      exact ⟨rfl, rfl⟩
  · have hb1 : (bits BinOp.and IntKind.u16 ((x.1.held : Int) / 2 ^ s) 1 == 1) = false := (bitOf_eq hh s).trans (by simpa using hbit)
    cases hl : isLocked (tw.locks s) with
    | true =>
      have he : stale tw.locks x.1 s = true := by simp [stale, hbit, hl]
      rw [he]
      have HL := hidI hl
      clear hl he hbit hh
      go_enter Try.func41, Try.ntmps41
      go_wp2_with fail
      refine (locked_yes w HL.out).mono ?_
      rintro e w1 ⟨rfl, rfl⟩
      go_wp2_with fail
      go_ret
      exact ⟨rfl, rfl⟩
    | false =>
      have he : stale tw.locks x.1 s = decide (x.1.clock < tw.locks s / 2) := by simp [stale, hbit, hl, since]
      rw [he]
      have HL := hidI hl
      clear hl he hbit hh
      go_enter Try.func41, Try.ntmps41
      go_wp2_with fail
      refine (locked_no w HL.out).mono ?_
      rintro e w1 ⟨rfl, rfl⟩
      go_wp2_with fail
      go_ret
      exact ⟨rfl, rfl⟩

/-- where the log's entries lie -/
theorem TlAt.logcell (h : TlAt w base b m t tw ts ev) {n : Nat} {x : Th × Value} (hx : ts[n]? = some x) : ∃ ao c, x.2 = .slice ao x.1.log.length c ∧
    (0 < x.1.log.length → ∃ g o, ao = some ⟨g, o, none⟩ ∧ g < w.heap.size ∧ ∀ (k : Nat) e, x.1.log[k]? = some e → w.cell? ⟨g, o + k * 2, none⟩ = some (.int .i64 e.1) ∧ w.cell? ⟨g, o + k * 2 + 1, none⟩ = some (.int .i64 e.2)) := by
  have hr := (h.log n x hx).rd
  have hr2 := hr
  obtain ⟨ao, c, hv⟩ := hr.shape
  rw [hv] at hr hr2
  obtain ⟨g1, ao', cap', hv', g2, g3⟩ := hr
  simp only [Value.slice.injEq, true_and] at hv'
  obtain ⟨rfl, rfl⟩ := hv'
  refine ⟨ao, c, hv, fun hl => ?_⟩
  obtain ⟨g, o, rfl, hlt, _⟩ := g3 hl
  refine ⟨g, o, rfl, hlt, fun k e he => ?_⟩
  obtain ⟨g', o', e1, _, hc⟩ := RdT.at (enc := encCell) encCell_len hr2 he
  simp only [Option.some.injEq, Addr.mk.injEq, and_true] at e1
  obtain ⟨rfl, rfl⟩ := e1
  exact ⟨hc 0 _ rfl, hc 1 _ rfl⟩

end Go.Proofs.Ytlphjkgjcfhihaa

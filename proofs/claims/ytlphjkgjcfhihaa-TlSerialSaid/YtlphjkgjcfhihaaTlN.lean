/- Package tl2: the contract of Run. -/
import Derived.Test.YtlphjkgjcfhihaaTlM
namespace Go.Proofs.Ytlphjkgjcfhihaa
set_option linter.unusedVariables false
set_option linter.unusedSimpArgs false
open Go.RowKit

/-- what Run answers -/
def RunRefused (words threads : Int) (n : Nat) : Option Int :=
  if words < 0 ∨ threads < 0 then some 1 else if 65536 < words ∨ 4 < threads ∨ 65536 < n then some 3 else none

set_option maxHeartbeats 1000000 in
theorem run_refused {w : World} {sv : Value} {ao : Option Addr} {l : List Tx} {cap : Nat} (hsv : sv = .slice ao l.length cap) (words threads : Int) {e : Int} (he : RunRefused words threads l.length = some e) :
    Calls Try.prog 5 #[.int .i64 words, .int .i64 threads, sv] w fun r w' => r = .returned (.tuple #[.slice none 0 0, .slice none 0 0, .int .i64 e]) ∧ Below w.heap.size w w' := by
  subst hsv
  unfold RunRefused at he
  by_cases h1 : words < 0
  · rw [if_pos (.inl h1)] at he
    simp only [Option.some.injEq] at he
    subst he
    go_enter Try.func5, Try.ntmps5
    go_wp2_with fail
    go_ret3
    exact ⟨rfl, Below.refl _ _⟩
  by_cases h2 : threads < 0
  · rw [if_pos (.inr h2)] at he
    simp only [Option.some.injEq] at he
    subst he
    go_enter Try.func5, Try.ntmps5
    go_wp2_with fail
    go_ret3
    exact ⟨rfl, Below.refl _ _⟩
  rw [if_neg (by omega)] at he
  split at he
  · rename_i hc
    simp only [Option.some.injEq] at he
    subst he
    by_cases h3 : 65536 < words
    · clear hc
      go_enter Try.func5, Try.ntmps5
      go_wp2_with fail
      go_ret3
      exact ⟨rfl, Below.refl _ _⟩
    by_cases h4 : 4 < threads
    · clear hc
      go_enter Try.func5, Try.ntmps5
      go_wp2_with fail
      go_ret3
      exact ⟨rfl, Below.refl _ _⟩
    have h5 : (65536 : Int) < (l.length : Int) := by omega
    clear hc
    go_enter Try.func5, Try.ntmps5
    go_wp2_with fail
    go_ret3
    exact ⟨rfl, Below.refl _ _⟩
  · cases he

theorem i64Info : (Try.prog.info? 2).map (fun i => (i.zero, i.size, i.bytes)) = some (some (.int .i64 0), 1, 8) := by kernel_rfl
def zeroAgg : Value := .agg #[.int .u8 0, .int .i64 0, .int .u16 0, .slice none 0 0, .int .u16 0, .int .i64 0, .int .i64 0, .int .i64 0, .int .i64 0, .int .i64 0, .int .i64 0, .int .i64 0, .int .i64 0, .int .i64 0, .int .i64 0, .int .i64 0, .int .i64 0, .int .i64 0, .int .i64 0, .int .i64 0, .int .i64 0, .int .i64 0]
theorem thInfo3 : (Try.prog.info? 80).map (fun i => (i.zero, i.size, i.bytes)) = some (some zeroAgg, 22, 192) := by kernel_rfl

theorem make_wides (w : World) (n : Nat) (hn : n ≤ 65537) (z : Int) (hz : z = n) (c : Array Value) (hc : c = (List.replicate n (Value.int .i64 0)).toArray) :
    (Instr.makeSlice 25 (.int .i64 z) (.int .i64 z)).run Try.prog w = .ok (.slice (some ⟨w.heap.size, 0, none⟩) n n) (w.alloc (.cells c 2)) := by
  subst hz
  obtain ⟨i0, hi, hz0, hz1, hz2⟩ := info_parts i64Info
  have h := run_make (P := Try.prog) w 25 2 i0 _ Try.underlying25 hi hz0 .i64 .i64 n n (by omega) (by omega) (by rw [hz2]; omega) (by omega)
  have e := made_list [Value.int .i64 0] 1 rfl (by decide) n
  have e2 : (Value.int .i64 0).cells = [Value.int .i64 0].toArray := rfl
  rw [hz1, Int.toNat_natCast, e2] at h
  rw [h, hc]
  have e3 : madeCells [Value.int .i64 0].toArray (n * 1) = (List.replicate n (Value.int .i64 0)).toArray := by
    apply Array.ext'
    rw [e]
    simp
  rw [e3]

theorem make_ths (w : World) (n : Nat) (hn : n ≤ 4) (c : Array Value) (hc : c = ((List.replicate n noTh).flatMap encTh).toArray) :
    (Instr.makeSlice 47 (.int .i64 (n : Int)) (.int .i64 (n : Int))).run Try.prog w = .ok (.slice (some ⟨w.heap.size, 0, none⟩) n n) (w.alloc (.cells c 80)) := by
  obtain ⟨i0, hi, hz0, hz1, hz2⟩ := info_parts thInfo3
  have h := run_make (P := Try.prog) w 47 80 i0 _ Try.underlying47 hi hz0 .i64 .i64 n n (by omega) (by omega) (by rw [hz2]; omega) (by omega)
  have e := made_list (encTh noTh) 22 rfl (by decide) n
  have e2 : zeroAgg.cells = (encTh noTh).toArray := rfl
  rw [hz1, Int.toNat_natCast, e2] at h
  rw [h, hc]
  have e3 : madeCells (encTh noTh).toArray (n * 22) = ((List.replicate n noTh).flatMap encTh).toArray := by
    apply Array.ext'
    rw [e]
    simp [List.flatMap]
  rw [e3]

theorem init_at {w' : World} {base b m t words threads : Nat}
    (hb : w'.heap[b]? = some (.cells (encW (.slice (some ⟨m, 0, none⟩) (words + 1) (words + 1)) 0 (fun _ => 0) (.slice (some ⟨t, 0, none⟩) threads threads) (.slice none 0 0)).toArray 50 (0, 0)))
    (hm : w'.heap[m]? = some (.cells (List.replicate (words + 1) (Value.int .i64 0)).toArray 2 (0, 0))) (ht : w'.heap[t]? = some (.cells ((List.replicate threads noTh).flatMap encTh).toArray 80 (0, 0)))
    (lb : base ≤ b) (lm : base ≤ m) (lt : base ≤ t) (bm : b ≠ m) (bt : b ≠ t) (mt : m ≠ t) : TlAt w' base b m t (TW.init words threads) (List.replicate threads noTh) (.slice none 0 0) := by
  have hno : ∀ (k : Nat) x, (List.replicate threads noTh)[k]? = some x → x = noTh := fun k x h => by
    rw [List.getElem?_replicate] at h
    split at h
    · cases h; rfl
    · cases h
  refine ⟨by simpa [TW.init] using hb, by simpa [TW.init] using hm, ht, by simp [TW.init, noTh], World.ownsRow_nil _ _ _ _, (fun k x h => ?_), lb, lm, lt, bm, bt, mt, (fun g h => ?_), (fun k g x h h2 => ?_), (fun j k g x y _ h _ h2 => ?_)⟩
  · obtain rfl := hno k x h
    exact noTh_log _ _
  · cases h
  · obtain rfl := hno k x h
    cases h2
  · obtain rfl := hno j x h
    cases h2

theorem block_newC (w : World) (o o' o'' : Obj) : (((w.alloc o).alloc o').alloc o'').heap[w.heap.size + 1 + 1]? = some o'' := by simpa using block_new ((w.alloc o).alloc o') o''

theorem do_any {w : World} {base b m t : Nat} {tw : TW} {ts : List (Th × Value)} {ev : Value} (h : TlAt w base b m t tw ts ev) {mm nn i : Nat} (hok : TOk tw mm nn i) (hi : i < 70000) (hn : nn ≤ 4) (o : Tx) :
    Calls Try.prog 12 #[.pointer (some ⟨b, 0, none⟩), txAgg o] w (TlDone base b m t (tw.do_ o) w) := by
  have hts : tw.ths.length = ts.length := by rw [h.same]; simp
  have hnn := hok.ths
  by_cases h1 : o.th < 0 ∨ tw.ths.length ≤ o.th
  · exact do_out h o h1
  · obtain ⟨x, hx⟩ := some_at (l := ts) (k := o.th.toNat) (by omega)
    exact do_in h hok hi hx (by omega) o (by omega)

set_option maxHeartbeats 1000000 in
theorem run_any {w : World} {ao : Option Addr} {l : List Tx} {cap : Nat} (hl : RdT encTx w 4 (.slice ao l.length cap) l) (words threads : Nat) (h1 : words ≤ 65536) (h2 : threads ≤ 4) (h3 : l.length ≤ 65536) :
    Calls Try.prog 5 #[.int .i64 (words : Int), .int .i64 (threads : Int), .slice ao l.length cap] w fun r w' => ∃ ev g, r = .returned (.tuple #[ev, .slice (some ⟨g, 0, none⟩) (words + 1) (words + 1), .int .i64 0]) ∧ Below w.heap.size w w' ∧
      w'.ownsRow w.heap.size 57 4 ev (runT words threads l).evs.length ((runT words threads l).evs.flatMap encEv) ∧
      w'.heap[g]? = some (.cells ((runT words threads l).mem.map (Value.int .i64)).toArray 2 (0, 0)) ∧ w.heap.size ≤ g ∧ (∀ k, ev.ownBlock = some k → k ≠ g) := by
  have HR := hidI hl
  have e1 : IntKind.i64.wrap ((words : Int) + 1) = words + 1 := IntWalk.i64_in _ (by omega)
  have b1 : ¬ ((words : Int) < 0) := by omega
  have b2 : ¬ ((threads : Int) < 0) := by omega
  have b3 : ¬ (65536 < (words : Int)) := by omega
  have b4 : ¬ (4 < (threads : Int)) := by omega
  have b5 : ¬ (65536 < (l.length : Int)) := by omega
  obtain ⟨Z1, hZ1⟩ : ∃ c : Array Value, c = (List.replicate (words + 1) (Value.int .i64 0)).toArray := ⟨_, rfl⟩
  obtain ⟨Z2, hZ2⟩ : ∃ c : Array Value, c = ((List.replicate threads noTh).flatMap encTh).toArray := ⟨_, rfl⟩
  have hm1 := fun w => make_wides w (words + 1) (by omega) ((words : Int) + 1) (by omega) Z1 hZ1
  have hm2 := fun w => make_ths w threads h2 Z2 hZ2
  have HZ1 := hidI hZ1
  have HZ2 := hidI hZ2
  clear hZ1 hZ2
  have HL := hidI h3
  have HW := hidI h1
  have HT := hidI h2
  clear hl h1 h2 h3
  go_enter Try.func5, Try.ntmps5
  go_wp2_with fail
  go_cut [9] from 31 to 37 (fun v wx => ∃ bb bm bt, v = .pointer (some ⟨bb, 0, none⟩) ∧ Hid (TlAt wx w.heap.size bb bm bt (TW.init words threads) (List.replicate threads noTh) (.slice none 0 0)) ∧ Hid (Below w.heap.size w wx))
  case first =>
    go_region
    · go_wp2_with fail
      go_meet
      rw [HZ1.out, HZ2.out]
      refine ⟨_, w.heap.size, w.heap.size + 1, rfl, hidI (init_at (by exact block_newC w _ _ _) (block_alloc (block_alloc (block_new _ _))) (block_alloc (block_new2 w _ _)) (by omega) (by omega) (by omega) (by omega) (by omega) (by omega)), hidI ?_⟩
      exact below_drewN ((((Below.refl _ w).alloc (Nat.le_refl _) _).alloc (by simp) _).alloc (by simp; omega) _) 1
    · go_wp2_with fail
      go_meet
      rw [HZ1.out, HZ2.out]
      refine ⟨_, w.heap.size + 1, w.heap.size, rfl, hidI (init_at (by exact block_newC w _ _ _) (block_alloc (block_new2 w _ _)) (block_alloc (block_alloc (block_new _ _))) (by omega) (by omega) (by omega) (by omega) (by omega) (by omega)), hidI ?_⟩
      exact below_drewN ((((Below.refl _ w).alloc (Nat.le_refl _) _).alloc (by simp) _).alloc (by simp; omega) _) 1
  case rest =>
  obtain ⟨bb, bm, bt, rfl, HI, HB⟩ := hcut
  clear hm1 hm2 e1 b1 b2 b3 b4 b5
  go_wp2_with fail
  go_loopw [40] (fun i w' => ∃ k : Nat, k ≤ l.length ∧ i = .int .i64 (k : Int) ∧ Hid (∃ ts ev, TlAt w' w.heap.size bb bm bt (runT words threads (l.take k)) ts ev) ∧ Hid (Below w.heap.size w w')) (fun i _ => ((l.length : Int) - intOf i).toNat)
  case atStart => exact ⟨0, by omega, rfl, hidI ⟨_, _, HI.out⟩, HB⟩
  case round =>
    obtain ⟨k, hk, rfl, HA, HBW⟩ := hrel
    have hl64 : l.length < 70000 := by have := HL.out; omega
    by_cases hlt : k < l.length
    · obtain ⟨x, hx⟩ := some_at hlt
      obtain ⟨g, off, rfl, hg, hc⟩ := RdT.at encTx_len HR.out hx
      have d0 : wr.cell? ⟨g, off + k * 4, none⟩ = some (.int .i64 x.th) := (HBW.out.cell hg).trans (hc 0 _ rfl)
      have d1 : wr.cell? ⟨g, off + k * 4 + 1, none⟩ = some (.int .u8 x.kind) := (HBW.out.cell hg).trans (hc 1 _ rfl)
      have d2 : wr.cell? ⟨g, off + k * 4 + 2, none⟩ = some (.int .i64 x.at_) := (HBW.out.cell hg).trans (hc 2 _ rfl)
      have d3 : wr.cell? ⟨g, off + k * 4 + 3, none⟩ = some (.int .i64 x.v) := (HBW.out.cell hg).trans (hc 3 _ rfl)
      have HX := hidI hx
      have HK := hidI (show runT words threads (l.take (k + 1)) = (runT words threads (l.take k)).do_ x from by rw [take_snoc hx]; simp [runT])
      obtain ⟨ts, ev, hat⟩ := HA.out
      have HAT := hidI hat
      have HOK := hidI (TOk.run words threads (l.take k))
      have hw1 : IntKind.i64.wrap ((k : Int) + 1) = k + 1 := IntWalk.i64_in _ (by omega)
      have HKL := hidI (show (l.take k).length < 70000 from by rw [List.length_take]; omega)
      clear hx hc hg hat hl64
      go_wp2_with fail
      refine (do_any (HAT.out.below ((Below.refl _ _).alloc (Nat.le_refl _) _)) HOK.out HKL.out HT.out x).mono ?_
      rintro e w2 ⟨rfl, ⟨ts2, ev2, h2⟩, hb2⟩
      have H2 := hidI h2
      have HB2 := hidI ((HBW.out.alloc HBW.out.size _).trans hb2)
      clear h2 hb2
      go_wp2_with fail
      exact ⟨⟨k + 1, by omega, by go_num, hidI ⟨ts2, ev2, by rw [HK.out]; exact H2.out⟩, HB2⟩, by simp [intOf]; omega⟩
    · obtain rfl : k = l.length := by omega
      obtain ⟨ts, ev, hat⟩ := HA.out
      rw [List.take_length] at hat
      have HOK := (TOk.run words threads l).mem
      have c1 := hat.wcell 19 _ rfl
      have c2 := hat.wcell 0 _ rfl
      rw [HOK] at c2
      have HAT := hidI hat
      have HM := hidI HOK
      clear hat HOK
      go_wp2_with fail
      go_region
      all_goals go_wp2_with fail
      all_goals go_ret3
      all_goals (
        exact ⟨ev, bm, rfl, below_drewN HBW.out 1, HAT.out.drew.evs, HAT.out.mem, HAT.out.lm, fun g hg => (HAT.out.ev_ne g hg).2.1⟩)

end Go.Proofs.Ytlphjkgjcfhihaa

/- turnstilelaw01.SameTxOps; what both Runs answer, in one form. -/
import Derived.Test.YtilkpmjkiohfdaaGreatDoorTrK
import Derived.Test.YtilkpmjkiohfdaaGreatDoorTlO
namespace Go.Proofs.YtilkpmjkiohfdaaGreatDoor
open Go.RowKit
set_option linter.unusedVariables false
set_option linter.unusedSimpArgs false

set_option maxHeartbeats 1000000 in
theorem sameTxOps_true {w : World} {ao bo : Option Addr} {ca cb : Nat} {l : List Tx} (ha : RdT encTx w 4 (.slice ao l.length ca) l) (hb : RdT encTx w 4 (.slice bo l.length cb) l) (hm : l.length ≤ 9223372036854775807) :
    Calls Tryz.prog 152 #[.slice ao l.length ca, .slice bo l.length cb] w fun e w' => e = .returned (.bool true) ∧ Below w.heap.size w w' := by
  have HA := hidI ha
  have HB := hidI hb
  clear ha hb
  go_enter Tryz.func152, Tryz.ntmps152
  go_wp2
  go_loopw [13] (fun i wr => ∃ k n : Nat, k ≤ l.length ∧ i = .int .i64 k ∧ wr = w.drewN n) (fun i _ => l.length - (intOf i).toNat)
  case atStart => exact ⟨0, 0, Nat.zero_le _, rfl, rfl⟩
  case round =>
    obtain ⟨k, n, hk, rfl, rfl⟩ := hrel
    by_cases hlt : k < l.length
    · obtain ⟨x, hx⟩ := some_at hlt
      obtain ⟨b1, o1, rfl, hs1, hc1⟩ := HA.out.at encTx_len hx
      obtain ⟨b2, o2, rfl, hs2, hc2⟩ := HB.out.at encTx_len hx
      have x0 := hc1 0 _ rfl
      have x1 := hc1 1 _ rfl
      have x2 := hc1 2 _ rfl
      have x3 := hc1 3 _ rfl
      have y0 := hc2 0 _ rfl
      have y1 := hc2 1 _ rfl
      have y2 := hc2 2 _ rfl
      have y3 := hc2 3 _ rfl
      simp only [Nat.add_zero] at x0 y0
      clear hc1 hc2 hx hs1 hs2
      go_wp2_with fail
      go_quiet (fail)
      go_wp2
      exact ⟨⟨k + 1, _, by omega, by go_num, rfl⟩, by simp [intOf]; omega⟩
    · obtain rfl : k = l.length := by omega
      go_wp2
      go_ret
      exact ⟨rfl, below_drewN (Below.refl _ _) n⟩

/-- what Run answers: the events, the words, the code -/
def runR (words threads : Int) (l : List Tx) : List Ev × List Int × Int :=
  match RunRefused words threads l.length with
  | some e => ([], [], e)
  | none => ((runT words.toNat threads.toNat l).evs, (runT words.toNat threads.toNat l).mem, 0)
theorem refused_none {words threads : Int} {n : Nat} (h : RunRefused words threads n = none) : 0 ≤ words ∧ 0 ≤ threads ∧ words ≤ 65536 ∧ threads ≤ 4 ∧ n ≤ 65536 := by
  unfold RunRefused at h
  split at h
  · cases h
  · split at h
    · cases h
    · omega
theorem runR_evs (words threads : Int) (l : List Tx) : (runR words threads l).1.length ≤ 65536 := by
  unfold runR
  cases h : RunRefused words threads l.length with
  | some e => simp
  | none =>
    have h1 := refused_none h
    have h2 := (TOk.run words.toNat threads.toNat l).evs
    simp only
    omega
theorem runR_mem (words threads : Int) (l : List Tx) : (runR words threads l).2.1.length ≤ 65537 := by
  unfold runR
  cases h : RunRefused words threads l.length with
  | some e => simp
  | none =>
    have h1 := refused_none h
    have h2 := (TOk.run words.toNat threads.toNat l).mem
    simp only
    omega

/-- both Runs' post -/
def RunU (words threads : Int) (l : List Tx) (w : World) (r : Ending) (w' : World) : Prop :=
  ∃ eo ec mo mc, r = .returned (.tuple #[.slice eo (runR words threads l).1.length ec, .slice mo (runR words threads l).2.1.length mc, .int .i64 (runR words threads l).2.2]) ∧ Below w.heap.size w w' ∧
    w'.ownsRow w.heap.size 126 4 (.slice eo (runR words threads l).1.length ec) (runR words threads l).1.length ((runR words threads l).1.flatMap encEv) ∧
    w'.ownsRow w.heap.size 2 1 (.slice mo (runR words threads l).2.1.length mc) (runR words threads l).2.1.length ((runR words threads l).2.1.flatMap encI) ∧
    (∀ k, (Value.slice eo (runR words threads l).1.length ec).ownBlock = some k → (Value.slice mo (runR words threads l).2.1.length mc).ownBlock ≠ some k)

theorem runU_of_refused {words threads : Int} {l : List Tx} {e : Int} (he : RunRefused words threads l.length = some e) {w : World} {r : Ending} {w' : World}
    (h : r = .returned (.tuple #[.slice none 0 0, .slice none 0 0, .int .i64 e]) ∧ Below w.heap.size w w') : RunU words threads l w r w' := by
  have hr : runR words threads l = ([], [], e) := by unfold runR; rw [he]
  unfold RunU
  rw [hr]
  exact ⟨none, 0, none, 0, h.1, h.2, World.ownsRow_nil _ _ _ _, World.ownsRow_nil _ _ _ _, fun k hk => by simp [Value.ownBlock] at hk⟩
theorem runU_of_ran {words threads : Int} {l : List Tx} (he : RunRefused words threads l.length = none) {w : World} {r : Ending} {w' : World} {ev : Value} {g : Nat}
    (h1 : r = .returned (.tuple #[ev, .slice (some ⟨g, 0, none⟩) (words.toNat + 1) (words.toNat + 1), .int .i64 0])) (h2 : Below w.heap.size w w')
    (h3 : w'.ownsRow w.heap.size 126 4 ev (runT words.toNat threads.toNat l).evs.length ((runT words.toNat threads.toNat l).evs.flatMap encEv))
    (h4 : w'.heap[g]? = some (.cells ((runT words.toNat threads.toNat l).mem.map (Value.int .i64)).toArray 2 (0, 0))) (h5 : w.heap.size ≤ g) (h6 : ∀ k, ev.ownBlock = some k → k ≠ g) : RunU words threads l w r w' := by
  have hr : runR words threads l = ((runT words.toNat threads.toNat l).evs, (runT words.toNat threads.toNat l).mem, 0) := by unfold runR; rw [he]
  have hb := refused_none he
  have hm := (TOk.run words.toNat threads.toNat l).mem
  unfold RunU
  rw [hr]
  obtain ⟨eo, ec, rfl⟩ := ownsRow_shape h3
  refine ⟨eo, ec, some ⟨g, 0, none⟩, words.toNat + 1, ?_, h2, h3, ?_, fun k hk => ?_⟩
  · rw [h1]
    simp only [hm]
  · simp only [hm]
    exact own_of_block (ys := []) (by rw [List.append_nil, flat_encI]; exact h4) h5 (by unfold maxLen; omega) (Nat.le_refl _) (by rw [flat_len encI_len, hm]) (by rw [List.append_nil, flat_len encI_len, hm])
  · have := h6 k hk
    simp only [Value.ownBlock, ne_eq, Option.some.injEq]
    omega

theorem tlrun_u {w : World} {ao : Option Addr} {l : List Tx} {cap : Nat} (hl : RdT encTx w 4 (.slice ao l.length cap) l) (words threads : Int) :
    Calls Tryz.prog 42 #[.int .i64 words, .int .i64 threads, .slice ao l.length cap] w (RunU words threads l w) := by
  cases he : RunRefused words threads l.length with
  | some e => exact (run_refused rfl words threads he).mono fun r w' h => runU_of_refused he h
  | none =>
    have hb := refused_none he
    obtain ⟨a, rfl⟩ : ∃ a : Nat, words = a := ⟨words.toNat, by omega⟩
    obtain ⟨c, rfl⟩ : ∃ c : Nat, threads = c := ⟨threads.toNat, by omega⟩
    refine (run_any hl a c (by omega) (by omega) (by omega)).mono ?_
    rintro r w' ⟨ev, g, h1, h2, h3, h4, h5, h6⟩
    exact runU_of_ran he h1 h2 h3 h4 h5 h6
theorem refrun_u {w : World} {ao : Option Addr} {l : List Tx} {cap : Nat} (hl : RdT encTx w 4 (.slice ao l.length cap) l) (words threads : Int) :
    Calls Tryz.prog 43 #[.int .i64 words, .int .i64 threads, .slice ao l.length cap] w (RunU words threads l w) := by
  cases he : RunRefused words threads l.length with
  | some e => exact (rrun_refused rfl words threads he).mono fun r w' h => runU_of_refused he h
  | none =>
    have hb := refused_none he
    obtain ⟨a, rfl⟩ : ∃ a : Nat, words = a := ⟨words.toNat, by omega⟩
    obtain ⟨c, rfl⟩ : ∃ c : Nat, threads = c := ⟨threads.toNat, by omega⟩
    refine (rrun_any hl a c (by omega) (by omega) (by omega)).mono ?_
    rintro r w' ⟨ev, g, h1, h2, h3, h4, h5, h6⟩
    exact runU_of_ran he h1 h2 h3 h4 h5 h6
end Go.Proofs.YtilkpmjkiohfdaaGreatDoor

/- turnstilelaw24.lives, and the constructors of things to do. -/
import Derived.Test.YtlphjkgjcfhihaaTlO
namespace Go.Proofs.Ytlphjkgjcfhihaa
set_option linter.unusedVariables false
set_option linter.unusedSimpArgs false
open Go.RowKit

set_option maxHeartbeats 400000 in
theorem begin_tx (w : World) (n : Int) : Calls Try.prog 13 #[.int .i64 n] w fun e w' => e = .returned (.agg #[.int .i64 n, .int .u8 1, .int .i64 0, .int .i64 0]) ∧ Below w.heap.size w w' := by
  go_enter Try.func13, Try.ntmps13
  go_wp2
  exact bodyPost_ret (v := .agg #[.int .i64 n, .int .u8 1, .int .i64 0, .int .i64 0]) (by simp [results, Try.results13, go_sem]) rfl ⟨rfl, (Below.refl _ _).alloc (Nat.le_refl _) _⟩

set_option maxHeartbeats 400000 in
theorem step_tx (w : World) (n : Int) : Calls Try.prog 15 #[.int .i64 n] w fun e w' => e = .returned (.agg #[.int .i64 n, .int .u8 4, .int .i64 0, .int .i64 0]) ∧ Below w.heap.size w w' := by
  go_enter Try.func15, Try.ntmps15
  go_wp2
  exact bodyPost_ret (v := .agg #[.int .i64 n, .int .u8 4, .int .i64 0, .int .i64 0]) (by simp [results, Try.results15, go_sem]) rfl ⟨rfl, (Below.refl _ _).alloc (Nat.le_refl _) _⟩

set_option maxHeartbeats 400000 in
theorem read_tx (w : World) (n a : Int) : Calls Try.prog 16 #[.int .i64 n, .int .i64 a] w fun e w' => e = .returned (.agg #[.int .i64 n, .int .u8 2, .int .i64 a, .int .i64 0]) ∧ Below w.heap.size w w' := by
  go_enter Try.func16, Try.ntmps16
  go_wp2
  exact bodyPost_ret (v := .agg #[.int .i64 n, .int .u8 2, .int .i64 a, .int .i64 0]) (by simp [results, Try.results16, go_sem]) rfl ⟨rfl, (Below.refl _ _).alloc (Nat.le_refl _) _⟩

set_option maxHeartbeats 400000 in
theorem write_tx (w : World) (n a v : Int) : Calls Try.prog 14 #[.int .i64 n, .int .i64 a, .int .i64 v] w fun e w' => e = .returned (.agg #[.int .i64 n, .int .u8 3, .int .i64 a, .int .i64 v]) ∧ Below w.heap.size w w' := by
  go_enter Try.func14, Try.ntmps14
  go_wp2
  exact bodyPost_ret (v := .agg #[.int .i64 n, .int .u8 3, .int .i64 a, .int .i64 v]) (by simp [results, Try.results14, go_sem]) rfl ⟨rfl, (Below.refl _ _).alloc (Nat.le_refl _) _⟩

/-- a literal slice, read -/
theorem rdt_lit {α : Type} {enc : α → List Value} {sz : Nat} (he : ∀ a, (enc a).length = sz) {w : World} {g : Nat} {T : TypeId} {l : List α} {c : Array Value} (h : w.heap[g]? = some (.cells c T (0, 0))) (hc : c = (l.flatMap enc).toArray) :
    RdT enc w sz (.slice (some ⟨g, 0, none⟩) l.length l.length) l := by
  subst hc
  refine ⟨flat_len he l, _, _, rfl, Nat.le_refl _, fun _ => ⟨g, 0, rfl, lt_of_block h, fun j u hj => ?_⟩⟩
  rw [Nat.zero_add]
  exact cell_of_block h (by simpa using hj)

/-- what Run answers, as a slice of events and one of words -/
theorem run_ok {w : World} {ao : Option Addr} {l : List Tx} {n cap : Nat} (hl : RdT encTx w 4 (.slice ao n cap) l) (words threads : Nat) (h1 : words ≤ 65536) (h2 : threads ≤ 4) (h3 : l.length ≤ 65536) (evs : List Ev) (mem : List Int) (he : (runT words threads l).evs = evs) (hm : (runT words threads l).mem = mem) :
    Calls Try.prog 5 #[.int .i64 (words : Int), .int .i64 (threads : Int), .slice ao n cap] w fun r w' => ∃ eo ec g, r = .returned (.tuple #[.slice eo evs.length ec, .slice (some ⟨g, 0, none⟩) (words + 1) (words + 1), .int .i64 0]) ∧ Below w.heap.size w w' ∧
      RdT encEv w' 4 (.slice eo evs.length ec) evs ∧ w'.heap[g]? = some (.cells (mem.map (Value.int .i64)).toArray 2 (0, 0)) ∧ mem.length = words + 1 := by
  subst he; subst hm
  obtain rfl := hl.len
  refine (run_any hl words threads h1 h2 h3).mono ?_
  rintro r w' ⟨ev, g, rfl, hb, ho, hg, _, _⟩
  obtain ⟨eo, ec, rfl⟩ := ownsRow_shape ho
  exact ⟨eo, ec, g, rfl, hb, Rd.of_own ho, hg, (TOk.run words threads l).mem⟩

theorem rdt_mem {w : World} {g n : Nat} {l : List Int} (h : w.heap[g]? = some (.cells (l.map (Value.int .i64)).toArray 2 (0, 0))) (hn : n = l.length) : RdT encI w 1 (.slice (some ⟨g, 0, none⟩) n n) l := by
  subst hn
  exact rdt_lit encI_len h (by rw [flat_encI])

def liveOps : List Tx := [⟨0, 1, 0, 0⟩, ⟨1, 1, 0, 0⟩, ⟨0, 3, 1, 5⟩, ⟨0, 4, 0, 0⟩, ⟨0, 4, 0, 0⟩, ⟨0, 4, 0, 0⟩, ⟨0, 4, 0, 0⟩, ⟨1, 2, 1, 0⟩]
def liveEvs : List Ev := [⟨0, 1, 0, 0⟩, ⟨1, 1, 0, 0⟩, ⟨0, 3, 1, 5⟩, ⟨0, 7, 1, 1⟩, ⟨1, 8, 0, 0⟩]
theorem live_evs : (runT 2 2 liveOps).evs = liveEvs := by rfl
theorem live_mem : (runT 2 2 liveOps).mem = [0, 5, 0] := by rfl

set_option maxHeartbeats 1000000 in
theorem lives_any (w : World) : Calls Try.prog 6 #[] w fun e w' => e = .returned (.bool true) ∧ Below w.heap.size w w' := by
  go_enter Try.func6, Try.ntmps6
  go_wp2_with fail
  refine (begin_tx _ _).mono ?_
  rintro e w1 ⟨rfl, b1⟩
  go_wp2_with fail
  refine (begin_tx _ _).mono ?_
  rintro e w2 ⟨rfl, b2⟩
  have b2 := bnext b1 b2
  clear b1
  go_wp2_with fail
  refine (write_tx _ _ _ _).mono ?_
  rintro e w3 ⟨rfl, b3⟩
  have b3 := bnext b2 b3
  clear b2
  go_wp2_with fail
  refine (step_tx _ _).mono ?_
  rintro e w4 ⟨rfl, b4⟩
  have b4 := bnext b3 b4
  clear b3
  go_wp2_with fail
  refine (step_tx _ _).mono ?_
  rintro e w5 ⟨rfl, b5⟩
  have b5 := bnext b4 b5
  clear b4
  go_wp2_with fail
  refine (step_tx _ _).mono ?_
  rintro e w6 ⟨rfl, b6⟩
  have b6 := bnext b5 b6
  clear b5
  go_wp2_with fail
  refine (step_tx _ _).mono ?_
  rintro e w7 ⟨rfl, b7⟩
  have b7 := bnext b6 b7
  clear b6
  go_wp2_with fail
  refine (read_tx _ _ _).mono ?_
  rintro e w8 ⟨rfl, b8⟩
  have HB := hidI (bnext b7 b8)
  clear b7 b8
  go_wp2_with fail
  refine (run_ok (l := liveOps) (rdt_lit encTx_len (block_new w8 _) rfl) 2 2 (by decide) (by decide) (by decide) liveEvs [0, 5, 0] live_evs live_mem).mono ?_
  rintro e w9 ⟨eo, ec, g, rfl, b9, hev, hmem, -⟩
  have HB9 := hidI (bnextA HB.out b9)
  have HE := hidI hev
  have HM := hidI hmem
  clear b9 hev hmem
  go_wp2_with fail
  refine (sameEvents_true (l := liveEvs) (HE.out.alloc _) (rdt_lit encEv_len (block_new w9 _) rfl) (by decide)).mono ?_
  rintro e w10 ⟨rfl, b10⟩
  have HB10 := hidI b10
  clear b10
  go_wp2_with fail
  have hmem2 := rdt_mem (n := 3) (blkA HB10.out HM.out) rfl
  refine (sameWides_true (l := [0, 5, 0]) (Rd.alloc hmem2 _) (rdt_lit encI_len (block_new w10 _) rfl) (by decide)).mono ?_
  rintro e w11 ⟨rfl, b11⟩
  have HB11 := hidI b11
  clear b11 hmem2
  go_wp2_with fail
  go_ret
  exact ⟨rfl, bnextA (bnextA HB9.out HB10.out) HB11.out⟩

end Go.Proofs.Ytlphjkgjcfhihaa

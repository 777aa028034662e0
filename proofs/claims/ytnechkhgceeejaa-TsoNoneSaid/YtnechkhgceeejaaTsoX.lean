/- TsoNone: a machine that is not there. -/
import Derived.Test.YtnechkhgceeejaaTsoW
namespace Go.Proofs.Ytnechkhgceeejaa
open Go.RowKit
set_option linter.unusedVariables false
set_option linter.unusedSimpArgs false

variable {w w' : World}

theorem cloneEvsNil (w : World) : Calls Try.prog 45 #[.slice none 0 0] w fun r w' => r = .returned (.slice none 0 0) ∧ w' = w := by
  have hq := fun w a l c => eqlNilT Try.underlying45 w a l c
  go_enter Try.func45, Try.ntmps45
  go_wp2_with fail
  go_ret
  exact ⟨rfl, rfl⟩
set_option maxHeartbeats 1000000 in
theorem events_gone {p : Value} (h : Gone w p) : Calls Try.prog 21 #[p] w fun r w' => r = .returned (.slice none 0 0) ∧ w' = w := by
  rcases h with rfl | ⟨b, rfl, h⟩
  · go_enter Try.func21, Try.ntmps21
    go_wp2_with fail
    go_ret
    exact ⟨rfl, rfl⟩
  · have c3 := cell_of_block (o := 3) h rfl
    clear h
    go_enter Try.func21, Try.ntmps21
    go_wp2_with fail
    refine (cloneEvsNil w).mono ?_
    rintro e w1 ⟨rfl, rfl⟩
    go_wp2_with fail
    go_ret
    exact ⟨rfl, rfl⟩

set_option maxRecDepth 100000 in
set_option maxHeartbeats 2000000 in
theorem none_any (w : World) (th n : Int) : Calls Try.prog 6 #[.int .i64 th, .int .i64 n] w fun e w' => e = .returned (.bool true) ∧ Below w.heap.size w w' := by
  go_enter Try.func6, Try.ntmps6
  go_wp2_with fail
  have hz := heap_alloc_new w (.cells #[.bool false, .slice none 0 0, .slice none 0 0, .slice none 0 0] 74)
  have HZ := hidI hz
  have HB0 := hidI ((Below.refl w.heap.size w).alloc (Nat.le_refl _) (.cells #[.bool false, .slice none 0 0, .slice none 0 0, .slice none 0 0] 74))
  clear hz
  generalize w.alloc (Obj.cells #[.bool false, .slice none 0 0, .slice none 0 0, .slice none 0 0] 74) = w0 at HZ HB0 ⊢
  go_loopw [7] (fun i w' => ∃ k : Nat, k ≤ 2 ∧ i = .int .i64 (k : Int) ∧ Hid (Below w0.heap.size w0 w')) (fun i _ => (2 - intOf i).toNat)
  case atStart => exact ⟨0, by omega, rfl, hidI (Below.refl _ _)⟩
  case round =>
    obtain ⟨k, hk, rfl, HR⟩ := hrel
    obtain rfl | rfl | rfl : k = 0 ∨ k = 1 ∨ k = 2 := by omega
    · have HG := hidI (show Gone wr (.pointer none) from .inl rfl)
      go_wp2_with fail
      refine (word_gone HG.out n).mono ?_
      rintro e wa ⟨rfl, rfl⟩
      go_wp2_with fail
      refine (register_gone HG.out th n).mono ?_
      rintro e wb ⟨rfl, rfl⟩
      go_wp2_with fail
      refine (at_gone HG.out th).mono ?_
      rintro e wc ⟨rfl, rfl⟩
      go_wp2_with fail
      refine (step_gone HG.out th).mono ?_
      rintro e wd ⟨rfl, hb⟩
      have HB := hidI (HR.out.trans (hb.mono HR.out.size))
      have HG := hidI (HG.out.below hb)
      clear hb
      go_wp2_with fail
      refine (flush_gone HG.out th).mono ?_
      rintro e we ⟨rfl, rfl⟩
      go_wp2_with fail
      refine (seen_gone HG.out).mono ?_
      rintro e wf ⟨rfl, rfl⟩
      go_wp2_with fail
      refine (events_gone HG.out).mono ?_
      rintro e wg ⟨rfl, rfl⟩
      go_wp2_with fail
      refine (waiting_gone HG.out th).mono ?_
      rintro e wh ⟨rfl, rfl⟩
      go_wp2_with fail
      refine (copy_gone HG.out).mono ?_
      rintro e wi ⟨rfl, rfl⟩
      go_wp2_with fail
      exact ⟨⟨1, by omega, rfl, HB⟩, by decide⟩
    · have HG := hidI (show Gone wr (.pointer (some ⟨w.heap.size, 0, none⟩)) from .inr ⟨_, rfl, (HR.out.block _ (lt_of_block HZ.out)).trans HZ.out⟩)
      go_wp2_with fail
      refine (word_gone HG.out n).mono ?_
      rintro e wa ⟨rfl, rfl⟩
      go_wp2_with fail
      refine (register_gone HG.out th n).mono ?_
      rintro e wb ⟨rfl, rfl⟩
      go_wp2_with fail
      refine (at_gone HG.out th).mono ?_
      rintro e wc ⟨rfl, rfl⟩
      go_wp2_with fail
      refine (step_gone HG.out th).mono ?_
      rintro e wd ⟨rfl, hb⟩
      have HB := hidI (HR.out.trans (hb.mono HR.out.size))
      have HG := hidI (HG.out.below hb)
      clear hb
      go_wp2_with fail
      refine (flush_gone HG.out th).mono ?_
      rintro e we ⟨rfl, rfl⟩
      go_wp2_with fail
      refine (seen_gone HG.out).mono ?_
      rintro e wf ⟨rfl, rfl⟩
      go_wp2_with fail
      refine (events_gone HG.out).mono ?_
      rintro e wg ⟨rfl, rfl⟩
      go_wp2_with fail
      refine (waiting_gone HG.out th).mono ?_
      rintro e wh ⟨rfl, rfl⟩
      go_wp2_with fail
      refine (copy_gone HG.out).mono ?_
      rintro e wi ⟨rfl, rfl⟩
      go_wp2_with fail
      exact ⟨⟨2, by omega, rfl, HB⟩, by decide⟩
    · go_wp2_with fail
      refine (lives_any wr).mono ?_
      rintro e w1 ⟨rfl, hb⟩
      go_wp2_with fail
      go_ret
      have h1 := HB0.out.trans (HR.out.mono HB0.out.size)
      exact ⟨rfl, h1.trans (hb.mono h1.size)⟩
end Go.Proofs.Ytnechkhgceeejaa

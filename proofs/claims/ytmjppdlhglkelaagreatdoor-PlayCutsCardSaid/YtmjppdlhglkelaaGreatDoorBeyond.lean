/- turnstilelaw01.Beyond of one length. -/
import Derived.Test.YtmjppdlhglkelaaGreatDoorBase
namespace Go.Proofs.YtmjppdlhglkelaaGreatDoor
open Go.RowKit

set_option maxHeartbeats 2000000 in
theorem beyond1 {w : World} {b : Nat} {t : TypeId} (n : Nat) (hb : w.heap[b]? = some (.cells #[.int .i64 (n : Int)] t (0, 0))) (hn : n < 2 ^ 62) :
    Calls Tryz.prog 4 #[.slice (some ⟨b, 0, none⟩) 1 1] w fun e w' => e = .returned (.bool (decide (262144 < n))) ∧ Below w.heap.size w w' := by
  have x0 : w.cell? ⟨b, 0, none⟩ = some (.int .i64 (n : Int)) := cell_of_block hb rfl
  clear hb
  by_cases h : n ≤ 262144
  · have h1 : ¬ ((n : Int) > 262144) := by omega
    have h2 : ¬ ((n : Int) < 0) := by omega
    rw [show decide (262144 < n) = false from by simp; omega]
    go_enter Tryz.func4, Tryz.ntmps4
    go_wp2_with fail
    go_loopw [4, 3] (fun i acc wr => wr = w ∧ (i = .int .i64 0 ∧ acc = .int .i64 0 ∨ i = .int .i64 1 ∧ acc = .int .i64 (n : Int))) (fun i _ _ => (1 - intOf i).toNat)
    case atStart => exact ⟨rfl, .inl ⟨rfl, rfl⟩⟩
    case round =>
      obtain ⟨rfl, ⟨rfl, rfl⟩ | ⟨rfl, rfl⟩⟩ := hrel
      · go_wp2
        exact ⟨⟨trivial, .inr ⟨rfl, rfl⟩⟩, by simp [intOf]⟩
      · go_wp2
        go_ret
        exact ⟨rfl, Below.refl _ _⟩
  · have h1 : ((n : Int) > 262144) := by omega
    have h2 : ¬ ((n : Int) < 0) := by omega
    rw [show decide (262144 < n) = true from by simp; omega]
    go_enter Tryz.func4, Tryz.ntmps4
    go_wp2_with fail
    go_loopw [4, 3] (fun i acc wr => wr = w ∧ i = .int .i64 0 ∧ acc = .int .i64 0) (fun i _ _ => (1 - intOf i).toNat)
    case atStart => exact ⟨rfl, rfl, rfl⟩
    case round =>
      obtain ⟨rfl, rfl, rfl⟩ := hrel
      go_wp2
      go_ret
      exact ⟨rfl, Below.refl _ _⟩

end Go.Proofs.YtmjppdlhglkelaaGreatDoor

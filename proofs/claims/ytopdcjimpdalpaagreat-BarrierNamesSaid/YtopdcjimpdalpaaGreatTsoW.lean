/- The laws of package tso: made, and the instructions; a machine lives. -/
import Derived.Test.YtopdcjimpdalpaaGreatTsoV
import Derived.Laws.Rows
namespace Go.Proofs.YtopdcjimpdalpaaGreat
open Go.RowKit
set_option linter.unusedVariables false
set_option linter.unusedSimpArgs false

variable {w w' : World} {base b : Nat}

def oSet (r n : Int) : OpD := ⟨1, 0, r, 0, 0, n⟩
def oStore (a b n : Int) : OpD := ⟨5, 0, a, b, 0, n⟩
def oLoad (a b n : Int) : OpD := ⟨4, 0, a, b, 0, n⟩
def livesOps : List OpD := [oSet 1 5, oStore 0 1 2, oLoad 2 0 2, ⟨10, 0, 0, 0, 0, 0⟩, ⟨14, 0, 0, 0, 0, 0⟩]
instance (o : OpD) : Decidable (wfOp o) := by unfold wfOp; exact inferInstance
/-- a code of one row, made of literals -/
theorem one_code (w : World) (l : List OpD) (hw : ∀ o ∈ l, wfOp o) : CodeAt ((w.alloc (.cells (l.flatMap encOp).toArray 107)).alloc (.cells #[.slice (some ⟨w.heap.size, 0, none⟩) l.length l.length] 57)) (.slice (some ⟨w.heap.size + 1, 0, none⟩) 1 1)
    [(.slice (some ⟨w.heap.size, 0, none⟩) l.length l.length, l)] := by
  have h1 := heap_alloc_new w (.cells (l.flatMap encOp).toArray 107)
  have h2 := heap_alloc_new (w.alloc (.cells (l.flatMap encOp).toArray 107)) (.cells #[.slice (some ⟨w.heap.size, 0, none⟩) l.length l.length] 57)
  have h3 := (heap_alloc_old (w.alloc (.cells (l.flatMap encOp).toArray 107)) (.cells #[.slice (some ⟨w.heap.size, 0, none⟩) l.length l.length] 57) (show w.heap.size < _ by simp)).trans h1
  rw [World.size_alloc] at h2
  refine ⟨⟨rfl, some ⟨w.heap.size + 1, 0, none⟩, 1, rfl, Nat.le_refl _, fun _ => ⟨_, _, rfl, lt_of_block h2, fun j u hj => ?_⟩⟩, fun p hp => ?_, fun p hp o ho => ?_⟩
  · rw [Nat.zero_add]
    exact cell_of_block h2 (by simpa [encC] using hj)
  · rw [List.mem_singleton.1 hp]
    exact ⟨flat_len encOp_len l, some ⟨w.heap.size, 0, none⟩, l.length, rfl, Nat.le_refl _, fun _ => ⟨_, _, rfl, lt_of_block h3, fun j u hj => by
      rw [Nat.zero_add]
      exact cell_of_block h3 (by rw [List.getElem?_toArray]; exact hj)⟩⟩
  · rw [List.mem_singleton.1 hp] at ho
    exact hw o ho

def lm0 : MM := newM 4 [livesOps] []
def lm1 : MM := (lm0.step 0).2
def lm2 : MM := (lm1.step 0).2
def lm3 : MM := (lm2.step 0).2
def lm4 : MM := (lm3.step 0).2
def lm5 : MM := (lm4.flush 0).2
def lm6 : MM := (lm5.flush 0).2
def lm7 : MM := (lm6.step 0).2
def lm8 : MM := (lm7.step 0).2
theorem lmf0 : (lm0.step 0).1 = true := by kernel_rfl
theorem lmf1 : (lm1.step 0).1 = true := by kernel_rfl
theorem lmf2 : (lm2.step 0).1 = true := by kernel_rfl
theorem lmf3 : (lm3.step 0).1 = false := by kernel_rfl
theorem lmr : ∃ t, lm4.ths[0]? = some t ∧ t.reg 2 = 5 := by
  have h : (lm4.ths[0]?).map (fun t => t.reg 2) = some 5 := by kernel_rfl
  cases hq : lm4.ths[0]? with
  | none => rw [hq] at h; cases h
  | some t => rw [hq] at h; exact ⟨t, rfl, by simpa using h⟩
theorem lmw0 : (if lm4.has 2 = true then lm4.at 2 else 0) = 0 ∧ lm4.has 2 = true := ⟨by kernel_rfl, by kernel_rfl⟩
theorem lmf4 : (lm4.flush 0).1 = true := by kernel_rfl
theorem lmf5 : (lm5.flush 0).1 = false := by kernel_rfl
theorem lmf6 : (lm6.step 0).1 = true := by kernel_rfl
theorem lmf7 : (lm7.step 0).1 = true := by kernel_rfl
theorem lmw5 : (if lm8.has 2 = true then lm8.at 2 else 0) = 5 ∧ lm8.has 2 = true := ⟨by kernel_rfl, by kernel_rfl⟩
theorem lms : lm8.ths.map (fun t => (t.out, t.fin)) = [([], 1)] := by kernel_rfl

end Go.Proofs.YtopdcjimpdalpaaGreat

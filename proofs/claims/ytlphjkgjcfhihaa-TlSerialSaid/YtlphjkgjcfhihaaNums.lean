/- turnstilelaw01 over lists of ints: SameNumbers, TwinNumbers, LeftNumbers. -/
import Derived.Test.YtlphjkgjcfhihaaMake
namespace Go.Proofs.Ytlphjkgjcfhihaa
set_option linter.unusedVariables false
set_option linter.unusedSimpArgs false
open Go.RowKit

def encZ (n : Int) : List Value := [.int .i64 n]
theorem encZ_len : ∀ a, (encZ a).length = 1 := fun _ => rfl

/-- what is given to a caller that wants ints -/
theorem Ints.of_rd {w : World} {v : Value} {zs : List Int} (h : RdT encZ w 1 v zs) : Ints w v zs := by
  obtain ⟨ao, cap, rfl⟩ := Rd.shape h
  have h0 := h
  obtain ⟨-, ao', cap', hv, h2, -⟩ := h0
  simp only [Value.slice.injEq] at hv
  obtain ⟨rfl, -, rfl⟩ := hv
  refine ⟨ao, cap, rfl, h2, fun i hi => ?_⟩
  obtain ⟨x, hx⟩ := some_at hi
  obtain ⟨b, off, rfl, hb, hc⟩ := RdT.at encZ_len h hx
  refine ⟨b, off, rfl, hb, ?_⟩
  have := hc 0 _ rfl
  simp only [Nat.mul_one, Nat.add_zero] at this
  rw [this, nth, List.getD_eq_getElem?_getD, hx]
  rfl
theorem Ints.to_rd {w : World} {v : Value} {zs : List Int} (h : Ints w v zs) : RdT encZ w 1 v zs := by
  obtain ⟨ao, cap, rfl, hc, hat⟩ := h
  refine ⟨flat_len encZ_len zs, ao, cap, rfl, hc, fun h0 => ?_⟩
  obtain ⟨b, off, rfl, hb, -⟩ := hat 0 h0
  refine ⟨b, off, rfl, hb, fun j u hj => ?_⟩
  have e : zs.flatMap encZ = zs.map (Value.int .i64) := by
    have : ∀ l : List Int, l.flatMap encZ = l.map (Value.int .i64) := fun l => by
      induction l with
      | nil => rfl
      | cons a l ih => rw [List.flatMap_cons, ih]; rfl
    exact this zs
  rw [e] at hj
  have hlt : j < zs.length := by
    have := (List.getElem?_eq_some_iff.1 hj).1
    simpa using this
  obtain ⟨b', off', he, -, hcell⟩ := hat j hlt
  simp only [Option.some.injEq, Addr.mk.injEq, and_true] at he
  obtain ⟨rfl, rfl⟩ := he
  rw [hcell]
  simp only [List.getElem?_map, List.getElem?_eq_getElem hlt, Option.map_some, Option.some.injEq] at hj
  rw [← hj, nth, List.getD_eq_getElem?_getD, List.getElem?_eq_getElem hlt]
  rfl

/-- a mark -/
def markZ (i : Int) : Int := -1000 - i

/-- TwinNumbers' post: a copy with two marks behind it -/
def TwinZPost (l : List Int) (w : World) (e : Ending) (w' : World) : Prop :=
  ∃ g, w.heap.size ≤ g ∧ e = .returned (.slice (some ⟨g, 0, none⟩) l.length (l.length + 2)) ∧ w'.heap[g]? = some (.cells ((l ++ [markZ l.length, markZ (l.length + 1)]).flatMap encZ).toArray 3 (0, 0)) ∧ Below w.heap.size w w'

theorem intInfo : (Try.prog.info? 3).map (fun i => (i.zero, i.size, i.bytes)) = some (some (.int .i64 0), 1, 8) := by kernel_rfl
theorem intSize : (Try.prog.info? 3).map (·.size) = some 1 := by kernel_rfl
theorem one_encZ {l : List Int} : ∀ v ∈ l.flatMap encZ, v.oneCell' = true := by
  intro v hv
  obtain ⟨x, _, hx⟩ := List.mem_flatMap.1 hv
  simp [encZ] at hx
  subst hx; rfl
theorem set1 (A R : List Value) (z x : Value) (i : Nat) (h : A.length = i) : (A ++ z :: R).toArray.setIfInBounds i x = (A ++ x :: R).toArray := by
  subst h
  simp [List.setIfInBounds_toArray]

/-- the copy while its marks are laid -/
def twZ (l : List Int) : Nat → List Value
  | 0 => l.flatMap encZ ++ [.int .i64 0, .int .i64 0]
  | 1 => l.flatMap encZ ++ [.int .i64 (markZ l.length), .int .i64 0]
  | _ => l.flatMap encZ ++ [.int .i64 (markZ l.length), .int .i64 (markZ (l.length + 1))]
theorem twZ_two (l : List Int) : twZ l 2 = (l ++ [markZ l.length, markZ (l.length + 1)]).flatMap encZ := by simp [twZ, encZ]
theorem twZ_split (l : List Int) (k : Nat) (hk : k < 2) : ∃ A R, A.length = l.length + k ∧ twZ l k = A ++ .int .i64 0 :: R ∧ twZ l (k + 1) = A ++ .int .i64 (markZ ((l.length + k : Nat) : Int)) :: R := by
  have hl := flat_len encZ_len l
  match k, hk with
  | 0, _ => exact ⟨l.flatMap encZ, [.int .i64 0], by simpa using hl, rfl, rfl⟩
  | 1, _ => exact ⟨l.flatMap encZ ++ [.int .i64 (markZ l.length)], [], by simp [hl], by simp [twZ], by simp [twZ]⟩

/-- a list that lies at a block's head reads as it -/
theorem head_nums {w : World} {g : Nat} {t : TypeId} {l m : List Int} {c : Nat} (h : w.heap[g]? = some (.cells ((l ++ m).flatMap encZ).toArray t (0, 0))) (hc : l.length ≤ c) : RdT encZ w 1 (.slice (some ⟨g, 0, none⟩) l.length c) l := by
  refine ⟨flat_len encZ_len l, _, _, rfl, hc, fun _ => ⟨g, 0, rfl, lt_of_block h, fun j u hj => ?_⟩⟩
  rw [Nat.zero_add]
  refine cell_of_block h ?_
  have hlt := (List.getElem?_eq_some_iff.1 hj).1
  simp only [List.getElem?_toArray, List.flatMap_append]
  rw [List.getElem?_append_left hlt]
  exact hj

end Go.Proofs.Ytlphjkgjcfhihaa

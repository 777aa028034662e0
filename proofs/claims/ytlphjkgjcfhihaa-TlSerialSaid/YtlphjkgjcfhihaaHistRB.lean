/- The document's attempts: begun, closed, wrong. -/
import Derived.Test.YtlphjkgjcfhihaaHistRA
import Derived.Test.YtlphjkgjcfhihaaMake
import Derived.Deep.RegionLawGrows
import Derived.Deep.RegionHeld3
namespace Go.Proofs.Ytlphjkgjcfhihaa
open Go.RowKit
set_option linter.unusedVariables false
set_option linter.unusedSimpArgs false

def evV (x : Ev) : Value := .agg #[.int .i64 x.th, .int .u8 x.k, .int .i64 x.a, .int .i64 x.b]

set_option maxHeartbeats 1000000 in
theorem inner_any (w : World) (k : Int) : Calls Try.prog 31 #[.int .u8 k] w fun e w' => e = .returned (.bool (decide (2 ≤ k ∧ k ≤ 8))) ∧ w' = w := by
  by_cases h : 2 ≤ k
  · by_cases h2 : k ≤ 8
    · rw [decide_eq_true ⟨h, h2⟩]
      go_enter Try.func31, Try.ntmps31
      go_wp2_with fail
      go_ret
      exact ⟨rfl, rfl⟩
    · rw [decide_eq_false (by omega)]
      go_enter Try.func31, Try.ntmps31
      go_wp2_with fail
      go_ret
      exact ⟨rfl, rfl⟩
  · rw [decide_eq_false (by omega)]
    go_enter Try.func31, Try.ntmps31
    go_wp2_with fail
    go_ret
    exact ⟨rfl, rfl⟩

set_option maxHeartbeats 2000000 in
theorem wrong_any {w : World} {bs : Nat} {s : HS} (hb : w.heap[bs]? = some (.cells (encStand s).toArray 63 (0, 0))) (x : Ev) :
    Calls Try.prog 18 #[.pointer (some ⟨bs, 0, none⟩), evV x] w fun e w' => e = .returned (.bool (wrongS s x)) ∧ Below w.heap.size w w' := by
  have hlt := lt_of_block hb
  have HB := hidI hb
  clear hb
  obtain ⟨th, k, a, b⟩ := x
  unfold evV wrongS
  simp only
  by_cases h1 : th < 0
  · rw [decide_eq_true (.inl h1)]
    go_enter Try.func18, Try.ntmps18
    go_wp2_with fail
    go_quiet (fail)
    go_wp2_with fail
    go_ret
    exact ⟨by simp, below_drewN ((Below.refl _ _).alloc (Nat.le_refl _) _) _⟩
  by_cases h2 : 4 ≤ th
  · rw [decide_eq_true (.inr h2)]
    go_enter Try.func18, Try.ntmps18
    go_wp2_with fail
    go_quiet (fail)
    go_wp2_with fail
    go_ret
    exact ⟨by simp, below_drewN ((Below.refl _ _).alloc (Nat.le_refl _) _) _⟩
  rw [decide_eq_false (p := th < 0 ∨ 4 ≤ th) (by omega)]
  obtain ⟨t, rfl⟩ : ∃ t : Nat, th = t := ⟨th.toNat, by omega⟩
  have ht : t < 4 := by omega
  rw [Int.toNat_natCast]
  by_cases h3 : k < 1
  · rw [decide_eq_true (.inl h3)]
    go_enter Try.func18, Try.ntmps18
    go_wp2_with fail
    go_quiet (fail)
    go_wp2_with fail
    go_ret
    exact ⟨by simp, below_drewN ((Below.refl _ _).alloc (Nat.le_refl _) _) _⟩
  by_cases h4 : 11 < k
  · rw [decide_eq_true (.inr h4)]
    go_enter Try.func18, Try.ntmps18
    go_wp2_with fail
    go_quiet (fail)
    go_wp2_with fail
    go_ret
    exact ⟨by simp, below_drewN ((Below.refl _ _).alloc (Nat.le_refl _) _) _⟩
  rw [decide_eq_false (p := k < 1 ∨ 11 < k) (by omega)]
  have d0 : ∀ o, (w.alloc o).cell? ⟨bs, t, none⟩ = some (.int .i64 (openI (s.opn t))) := fun o => cell_of_block (block_alloc HB.out) (encStand_opn s ht)
  have e0 : ∀ o, (w.alloc o).cell? ⟨bs, 4 + t, none⟩ = some (.bool (s.ended t)) := fun o => cell_of_block (block_alloc HB.out) (encStand_ended s ht)
  cases hend : s.ended t with
  | true =>
    rw [hend] at e0
    go_enter Try.func18, Try.ntmps18
    go_wp2_with fail
    go_quiet (fail)
    go_wp2_with fail
    go_ret
    exact ⟨by simp, below_drewN ((Below.refl _ _).alloc (Nat.le_refl _) _) _⟩
  | false =>
    rw [hend] at e0
    by_cases h11 : k = 11
    · subst h11
      go_enter Try.func18, Try.ntmps18
      go_wp2_with fail
      go_quiet (fail)
      go_wp2_with fail
      go_quiet (fail)
      go_wp2_with fail
      go_ret
      exact ⟨by simp, below_drewN ((Below.refl _ _).alloc (Nat.le_refl _) _) _⟩
    · have k11 : (k == 11) = false := by simpa using h11
      cases hop : s.opn t with
      | none =>
        rw [hop] at d0
        simp only [openI] at d0
        go_enter Try.func18, Try.ntmps18
        go_wp2_with fail
        go_quiet (fail)
        go_wp2_with fail
        go_quiet (fail)
        go_wp2_with fail
        refine (inner_any _ _).mono ?_
        rintro e w1 ⟨rfl, rfl⟩
        go_wp2_with fail
        go_ret
        exact ⟨by simp [h11], below_drewN ((Below.refl _ _).alloc (Nat.le_refl _) _) _⟩
      | some j =>
        rw [hop] at d0
        simp only [openI] at d0
        go_enter Try.func18, Try.ntmps18
        go_wp2_with fail
        go_quiet (fail)
        go_wp2_with fail
        go_quiet (fail)
        go_wp2_with fail
        refine (inner_any _ _).mono ?_
        rintro e w1 ⟨rfl, rfl⟩
        go_wp2_with fail
        go_ret
        exact ⟨by simp [h11], below_drewN ((Below.refl _ _).alloc (Nat.le_refl _) _) _⟩

set_option maxHeartbeats 1000000 in
theorem rbegun_any (w : World) (x : Ev) (i : Int) :
    Calls Try.prog 32 #[evV x, .int .i64 i] w fun e w' => e = .returned (.agg #[.int .i64 x.th, .int .u8 0, .int .i64 i, .int .i64 (-1), .int .i64 x.a, .int .i64 0, .bool false, .slice none 0 0]) ∧ Below w.heap.size w w' := by
  obtain ⟨th, k, a, b⟩ := x
  unfold evV
  go_enter Try.func32, Try.ntmps32
  go_wp2_with fail
  refine bodyPost_ret (v := .agg #[.int .i64 th, .int .u8 0, .int .i64 i, .int .i64 (-1), .int .i64 a, .int .i64 0, .bool false, .slice none 0 0]) (by simp [results, Try.results32, go_sem]) rfl ⟨rfl, ((Below.refl _ _).alloc (Nat.le_refl _) _).alloc (by simp) _⟩

def closedOf (x : Ev) (i : Int) (a : Att) : Att := if x.k = 7 then { a with kind := 1, fin := i, place := x.a, writer := x.b == 1 } else if x.k = 8 then { a with kind := 2, fin := i } else { a with kind := 3, fin := i }

set_option maxRecDepth 100000 in
set_option maxHeartbeats 2000000 in
theorem rclosed_any (w : World) (p : Att) (dv : Value) (x : Ev) (i : Int) {ao : Option Addr} {n c : Nat} (hdv : dv = .slice ao n c) :
    Calls Try.prog 33 #[.agg (encAtt p dv).toArray, evV x, .int .i64 i] w fun e w' => e = .returned (.agg (encAtt (closedOf x i p) dv).toArray) ∧ Below w.heap.size w w' := by
  subst hdv
  obtain ⟨th, k, a, b⟩ := x
  unfold evV encAtt closedOf
  simp only
  by_cases h7 : k = 7
  · subst h7
    go_enter Try.func33, Try.ntmps33
    go_wp2_with fail
    go_region
    all_goals (
      go_wp2_with fail
      refine bodyPost_ret (v := .agg #[.int .i64 p.th, .int .u8 1, .int .i64 p.beg, .int .i64 i, .int .i64 p.clock, .int .i64 a, .bool (b == 1), .slice ao n c]) (by simp [results, Try.results33, go_sem]) rfl ⟨by simp, ?_⟩
      exact ((((Below.refl _ _).alloc (Nat.le_refl _) _).alloc (by simp) _).alloc (by simp; omega) _).drew)
  by_cases h8 : k = 8
  · subst h8
    go_enter Try.func33, Try.ntmps33
    go_wp2_with fail
    refine bodyPost_ret (v := .agg #[.int .i64 p.th, .int .u8 2, .int .i64 p.beg, .int .i64 i, .int .i64 p.clock, .int .i64 p.place, .bool p.writer, .slice ao n c]) (by simp [results, Try.results33, go_sem]) rfl ⟨by simp, ?_⟩
    exact (((Below.refl _ _).alloc (Nat.le_refl _) _).alloc (by simp) _).alloc (by simp; omega) _
  have e7 : (k == 7) = false := by simpa using h7
  have e8 : (k == 8) = false := by simpa using h8
  go_enter Try.func33, Try.ntmps33
  go_wp2_with fail
  refine bodyPost_ret (v := .agg #[.int .i64 p.th, .int .u8 3, .int .i64 p.beg, .int .i64 i, .int .i64 p.clock, .int .i64 p.place, .bool p.writer, .slice ao n c]) (by simp [results, Try.results33, go_sem]) rfl ⟨by simp [h7, h8], ?_⟩
  exact (((Below.refl _ _).alloc (Nat.le_refl _) _).alloc (by simp) _).alloc (by simp; omega) _
end Go.Proofs.Ytlphjkgjcfhihaa

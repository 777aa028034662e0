/- Package tso: works, and what each kind's work does. (Written by mktsof.py.) -/
import Derived.Test.YtopdcjimpdalpaaGreatTsoE
import Derived.Test.YtopdcjimpdalpaaGreatTsoD2
import Derived.Test.YtopdcjimpdalpaaGreatTsoInv
import Derived.Laws.Rows
namespace Go.Proofs.YtopdcjimpdalpaaGreat
open Go.RowKit
set_option linter.unusedVariables false
set_option linter.unusedSimpArgs false

def worksA : Array Value := #[.nilFunc, .func (.func 143) #[] #[], .func (.func 144) #[] #[], .func (.func 145) #[] #[], .func (.func 146) #[] #[], .func (.func 147) #[] #[], .func (.func 148) #[] #[], .func (.func 149) #[] #[], .func (.func 150) #[] #[], .func (.func 151) #[] #[], .func (.func 152) #[] #[], .func (.func 153) #[] #[], .func (.func 154) #[] #[], .func (.func 155) #[] #[], .func (.func 156) #[] #[], .func (.func 157) #[] #[]]

set_option maxHeartbeats 1000000 in
theorem works_any (w : World) : Calls Tryz.prog 105 #[] w fun r w' => r = .returned (.agg worksA) ∧ Below w.heap.size w w' := by
  have o1 := fun w a => run_store Tryz.prog w a .nilFunc .plain rfl
  have o2 := fun w a f c d => run_store Tryz.prog w a (.func f c d) .plain rfl
  go_enter Tryz.func105, Tryz.ntmps105
  go_wp2_with fail
  try simp only [Exit.inBlock, Exit.then]
  refine bodyPost_ret (results_cell_row rfl _ _ _ _ worksA (0, 0) (.array 16 194) rfl (heap_alloc_new w _) (by kernel_rfl) rfl (by kernel_rfl)) rfl ?_
  exact ⟨rfl, (Below.refl _ _).alloc (Nat.le_refl _) _⟩

/-- what a work wants -/
structure WorkIn (w : World) (base b : Nat) (own : Nat → Nat) (mm : MM) (xs : List TX) (mv ev : Value) (tb cap n : Nat) (x : TX) (o : OpD) (a : Int) : Prop where
  at_ : MAt w base b own mm xs mv (.slice (some ⟨tb, 0, none⟩) xs.length cap) ev
  hx : xs[n]? = some x
  pl : 0 ≤ x.th.at_ ∧ x.th.at_ ≤ 262144
  has : o.kind = 4 ∨ o.kind = 8 ∨ o.kind = 9 ∨ o.kind = 15 → mm.has a = true
  full : o.kind = 5 → x.th.wait.length < 64
  out : x.th.out.length < 1000000000
  evs : mm.evs.length < 1000000000
  four : xs.length ≤ 4

theorem kind_cases {k : Int} (h : 1 ≤ k ∧ k ≤ 15) : k = 1 ∨ k = 2 ∨ k = 3 ∨ k = 4 ∨ k = 5 ∨ k = 6 ∨ k = 7 ∨ k = 8 ∨ k = 9 ∨ k = 10 ∨ k = 11 ∨ k = 12 ∨ k = 13 ∨ k = 14 ∨ k = 15 := by omega

set_option maxRecDepth 10000 in
theorem work_fn (o : OpD) (ho : OpOk o) : ∃ F, worksA[o.kind.toNat]? = some (.func (.func F) #[] #[]) ∧ (∀ args w, (callFunc F args).run Tryz.prog w = .ok (.enter F args) w) ∧ ∀ (w : World) (base b : Nat) (own : Nat → Nat) (mm : MM) (xs : List TX) (mv ev : Value) (tb cap n : Nat) (x : TX) (a : Int),
    WorkIn w base b own mm xs mv ev tb cap n x o a → Calls Tryz.prog F #[.pointer (some ⟨b, 0, none⟩), .pointer (some ⟨tb, n * 13, none⟩), .agg (encOp o).toArray, .int .i64 a] w (WorkPost base b own mm xs tb cap n x o a w) := by
  obtain ⟨kind, cal, ra, rb, rc, num⟩ := o
  obtain ⟨hk, hra, hrb, hrc, hj, hn, ht⟩ := ho
  simp only at hk hra hrb hrc hj hn ht
  obtain ⟨ra, rfl⟩ := Int.eq_ofNat_of_zero_le hra.1
  obtain ⟨rb, rfl⟩ := Int.eq_ofNat_of_zero_le hrb.1
  obtain ⟨rc, rfl⟩ := Int.eq_ofNat_of_zero_le hrc.1
  have hra : ra < 8 := by omega
  have hrb : rb < 8 := by omega
  have hrc : rc < 8 := by omega
  rcases kind_cases hk with rfl | rfl | rfl | rfl | rfl | rfl | rfl | rfl | rfl | rfl | rfl | rfl | rfl | rfl | rfl
  · refine ⟨143, rfl, fun _ _ => by kernel_rfl, fun w base b own mm xs mv ev tb cap n x a h => ?_⟩
    exact ins_set h.at_ h.hx hra hrb hrc h.pl a
  · refine ⟨144, rfl, fun _ _ => by kernel_rfl, fun w base b own mm xs mv ev tb cap n x a h => ?_⟩
    exact ins_move h.at_ h.hx hra hrb hrc h.pl a
  · refine ⟨145, rfl, fun _ _ => by kernel_rfl, fun w base b own mm xs mv ev tb cap n x a h => ?_⟩
    exact ins_calc h.at_ h.hx hra hrb hrc h.pl a
  · refine ⟨146, rfl, fun _ _ => by kernel_rfl, fun w base b own mm xs mv ev tb cap n x a h => ?_⟩
    have h2 := has_iff.1 (h.has (by simp))
    obtain ⟨a, rfl⟩ := Int.eq_ofNat_of_zero_le h2.1
    have ha : a < mm.mem.length := by omega
    exact ins_load4 h.at_ h.hx hra hrb hrc h.pl ha
  · refine ⟨147, rfl, fun _ _ => by kernel_rfl, fun w base b own mm xs mv ev tb cap n x a h => ?_⟩
    exact ins_store h.at_ h.hx hra hrb hrc h.pl a (h.full rfl)
  · refine ⟨148, rfl, fun _ _ => by kernel_rfl, fun w base b own mm xs mv ev tb cap n x a h => ?_⟩
    exact ins_jump h.at_ h.hx hra hrb hrc h.pl a (hj (.inl rfl))
  · refine ⟨149, rfl, fun _ _ => by kernel_rfl, fun w base b own mm xs mv ev tb cap n x a h => ?_⟩
    exact ins_zero h.at_ h.hx hra hrb hrc h.pl a (hj (.inr rfl))
  · refine ⟨150, rfl, fun _ _ => by kernel_rfl, fun w base b own mm xs mv ev tb cap n x a h => ?_⟩
    have h2 := has_iff.1 (h.has (by simp))
    obtain ⟨a, rfl⟩ := Int.eq_ofNat_of_zero_le h2.1
    have ha : a < mm.mem.length := by omega
    exact ins_cas h.at_ h.hx hra hrb hrc h.pl ha
  · refine ⟨151, rfl, fun _ _ => by kernel_rfl, fun w base b own mm xs mv ev tb cap n x a h => ?_⟩
    have h2 := has_iff.1 (h.has (by simp))
    obtain ⟨a, rfl⟩ := Int.eq_ofNat_of_zero_le h2.1
    have ha : a < mm.mem.length := by omega
    exact ins_xadd h.at_ h.hx hra hrb hrc h.pl ha
  · refine ⟨152, rfl, fun _ _ => by kernel_rfl, fun w base b own mm xs mv ev tb cap n x a h => ?_⟩
    exact ins_fence h.at_ h.hx hra hrb hrc h.pl a
  · refine ⟨153, rfl, fun _ _ => by kernel_rfl, fun w base b own mm xs mv ev tb cap n x a h => ?_⟩
    exact ins_tell h.at_ h.hx hra hrb hrc h.pl a h.out h.evs h.four
  · refine ⟨154, rfl, fun _ _ => by kernel_rfl, fun w base b own mm xs mv ev tb cap n x a h => ?_⟩
    exact ins_note h.at_ h.hx hra hrb hrc h.pl a (hn rfl) h.evs h.four
  · refine ⟨155, rfl, fun _ _ => by kernel_rfl, fun w base b own mm xs mv ev tb cap n x a h => ?_⟩
    exact ins_trap h.at_ h.hx hra hrb hrc h.pl a (ht rfl)
  · refine ⟨156, rfl, fun _ _ => by kernel_rfl, fun w base b own mm xs mv ev tb cap n x a h => ?_⟩
    exact ins_halt h.at_ h.hx hra hrb hrc h.pl a
  · refine ⟨157, rfl, fun _ _ => by kernel_rfl, fun w base b own mm xs mv ev tb cap n x a h => ?_⟩
    have h2 := has_iff.1 (h.has (by simp))
    obtain ⟨a, rfl⟩ := Int.eq_ofNat_of_zero_le h2.1
    have ha : a < mm.mem.length := by omega
    exact ins_look h.at_ h.hx hra hrb hrc h.pl ha h.evs h.four
end Go.Proofs.YtopdcjimpdalpaaGreat

/- Package tl2: how words, threads and events lie. -/
import Derived.Test.YtlphjkgjcfhihaaHistB
import Derived.Test.YtlphjkgjcfhihaaHistA
import Derived.Test.YtlphjkgjcfhihaaStep
import Derived.Test.YtlphjkgjcfhihaaMTlSpec
namespace Go.Proofs.Ytlphjkgjcfhihaa
set_option linter.unusedVariables false
set_option linter.unusedSimpArgs false
open Go.RowKit

theorem cellInfo : (Try.prog.info? 42).map (fun i => (i.zero, i.size, i.bytes)) = some (some (.agg #[.int .i64 0, .int .i64 0]), 2, 16) := by kernel_rfl

/-- a thread as cells, its log lying at lv -/
def encTh (x : Th × Value) : List Value :=
  [.int .u8 x.1.phase, .int .i64 x.1.clock, .int .u16 x.1.reads, x.2, .int .u16 x.1.held,
   .int .i64 (x.1.old 0), .int .i64 (x.1.old 1), .int .i64 (x.1.old 2), .int .i64 (x.1.old 3), .int .i64 (x.1.old 4), .int .i64 (x.1.old 5), .int .i64 (x.1.old 6), .int .i64 (x.1.old 7),
   .int .i64 (x.1.old 8), .int .i64 (x.1.old 9), .int .i64 (x.1.old 10), .int .i64 (x.1.old 11), .int .i64 (x.1.old 12), .int .i64 (x.1.old 13), .int .i64 (x.1.old 14), .int .i64 (x.1.old 15),
   .int .i64 x.1.now]
theorem encTh_len : ∀ x, (encTh x).length = 22 := fun _ => rfl

/-- the world's cells -/
def encW (mv : Value) (clock : Int) (locks : Nat → Int) (tv ev : Value) : List Value :=
  [mv, .int .i64 clock, .int .i64 (locks 0), .int .i64 (locks 1), .int .i64 (locks 2), .int .i64 (locks 3), .int .i64 (locks 4), .int .i64 (locks 5), .int .i64 (locks 6), .int .i64 (locks 7),
   .int .i64 (locks 8), .int .i64 (locks 9), .int .i64 (locks 10), .int .i64 (locks 11), .int .i64 (locks 12), .int .i64 (locks 13), .int .i64 (locks 14), .int .i64 (locks 15), tv, ev]

/-- a log: a row of its own as long as it may grow -/
def LogAt (w : World) (base : Nat) (x : Th × Value) : Prop :=
  (∀ g, x.2.ownBlock = some g → base ≤ g ∧ g < w.heap.size) ∧
  (x.1.phase ≠ 3 ∧ w.ownsRow base 42 2 x.2 x.1.log.length (x.1.log.flatMap encCell) ∨ x.1.phase = 3 ∧ Rd w 2 x.2 x.1.log.length (x.1.log.flatMap encCell))

/-- what the calls of tl2 find: the world in block b, its words in m, its threads in t -/
structure TlAt (w : World) (base b m t : Nat) (tw : TW) (ts : List (Th × Value)) (ev : Value) : Prop where
  blk : w.heap[b]? = some (.cells (encW (.slice (some ⟨m, 0, none⟩) tw.mem.length tw.mem.length) tw.clock tw.locks (.slice (some ⟨t, 0, none⟩) ts.length ts.length) ev).toArray 50 (0, 0))
  mem : w.heap[m]? = some (.cells (tw.mem.map (Value.int .i64)).toArray 2 (0, 0))
  ths : w.heap[t]? = some (.cells (ts.flatMap encTh).toArray 80 (0, 0))
  same : tw.ths = ts.map Prod.fst
  evs : w.ownsRow base 57 4 ev tw.evs.length (tw.evs.flatMap encEv)
  log : ∀ (k : Nat) x, ts[k]? = some x → LogAt w base x
  lb : base ≤ b
  lm : base ≤ m
  lt : base ≤ t
  bm : b ≠ m
  bt : b ≠ t
  mt : m ≠ t
  ev_ne : ∀ g, ev.ownBlock = some g → g ≠ b ∧ g ≠ m ∧ g ≠ t
  lg_ne : ∀ (k g : Nat) x, ts[k]? = some x → x.2.ownBlock = some g → g ≠ b ∧ g ≠ m ∧ g ≠ t ∧ ev.ownBlock ≠ some g
  lg_lg : ∀ (j k g : Nat) x y, j ≠ k → ts[j]? = some x → ts[k]? = some y → x.2.ownBlock = some g → y.2.ownBlock ≠ some g

/-- one element's cells are written over -/
theorem flat_set {α : Type} {enc : α → List Value} {sz : Nat} (he : ∀ a, (enc a).length = sz) (l : List α) : ∀ {k : Nat} {x y : α} {j : Nat} {u : Value}, l[k]? = some x → enc y = (enc x).set j u → j < sz → (l.set k y).flatMap enc = (l.flatMap enc).set (k * sz + j) u := by
  induction l with
  | nil => intro k x y j u h; simp at h
  | cons a l ih =>
    intro k x y j u h hy hj
    cases k with
    | zero =>
      simp only [List.getElem?_cons_zero, Option.some.injEq] at h
      subst h
      rw [List.set_cons_zero, List.flatMap_cons, List.flatMap_cons, hy, Nat.zero_mul, Nat.zero_add, List.set_append_left _ _ (by rw [he]; exact hj)]
    | succ k =>
      simp only [List.getElem?_cons_succ] at h
      rw [List.set_cons_succ, List.flatMap_cons, List.flatMap_cons, ih h hy hj, List.set_append_right _ _ (by rw [he, Nat.add_mul]; omega), he]
      congr 2
      rw [Nat.add_mul]; omega

end Go.Proofs.Ytlphjkgjcfhihaa

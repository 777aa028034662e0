/- Package history: how events and attempts lie; the contract of (*thread).end. -/
import Derived.Test.YtilkpmjkiohfdaaGreatDoorStep
import Derived.Test.YtilkpmjkiohfdaaGreatDoorHistSpec
namespace Go.Proofs.YtilkpmjkiohfdaaGreatDoor
set_option linter.unusedVariables false
set_option linter.unusedSimpArgs false
open Go.RowKit

/-- api.Event: Thread, Kind, A, B -/
def encEv (x : Ev) : List Value := [.int .i64 x.th, .int .u8 x.k, .int .i64 x.a, .int .i64 x.b]
theorem encEv_len : ∀ a, (encEv a).length = 4 := fun _ => rfl
/-- api.Attempt, its Done lying at dv -/
def encAtt (a : Att) (dv : Value) : List Value := [.int .i64 a.th, .int .u8 a.kind, .int .i64 a.beg, .int .i64 a.fin, .int .i64 a.clock, .int .i64 a.place, .bool a.writer, dv]
theorem evInfo : (Tryz.prog.info? 126).map (fun i => (i.zero, i.size, i.bytes)) = some (some (.agg #[.int .i64 0, .int .u8 0, .int .i64 0, .int .i64 0]), 4, 32) := by kernel_rfl

/-- an attempt lies in block g, its events in a row of their own -/
def AttAt (w : World) (base g : Nat) (dv : Value) (a : Att) : Prop :=
  w.heap[g]? = some (.cells (encAtt a dv).toArray 138 (0, 0)) ∧ base ≤ g ∧ w.ownsRow base 126 4 dv a.done.length (a.done.flatMap encEv)

set_option maxHeartbeats 1000000 in
theorem end_any {w : World} {bt o g : Nat} {T : TypeId} {tc : Array Value} {a : Att} {dv : Value} (k at_ : Int)
    (hb : w.heap[bt]? = some (.cells tc T (0, 0))) (ho : tc[o]? = some (.pointer (some ⟨g, 0, none⟩)))
    (hg : w.heap[g]? = some (.cells (encAtt a dv).toArray 138 (0, 0))) (hn : bt ≠ g) :
    Calls Tryz.prog 204 #[.pointer (some ⟨bt, o, none⟩), .int .u8 k, .int .i64 at_] w fun e w' => e = .returned (.tuple #[]) ∧
      w'.heap[g]? = some (.cells (encAtt { a with kind := k, fin := at_ } dv).toArray 138 (0, 0)) ∧
      w'.heap[bt]? = some (.cells (tc.setIfInBounds o (.pointer none)) T (0, 0)) ∧ Chg (fun j => j = bt ∨ j = g) w w' ∧ w'.heap.size = w.heap.size := by
  have c1 := cell_of_block hb ho
  have f1 := free_of_block (o := o) hb
  have c2 : w.cell? ⟨g, 1, none⟩ = some (.int .u8 a.kind) := cell_of_block hg rfl
  have c3 : w.cell? ⟨g, 3, none⟩ = some (.int .i64 a.fin) := cell_of_block hg rfl
  have f2 := free_of_block (o := 1) hg
  have f3 := free_of_block (o := 3) hg
  have HB := hidI hb
  have HG := hidI hg
  clear hb hg ho
  go_enter Tryz.func204, Tryz.ntmps204
  go_wp2
  go_region
  all_goals go_wp2
  all_goals go_end0
  all_goals refine ⟨rfl, ?_, ?_, ?_, ?_⟩
  · show (World.setCell _ _ _).heap[g]? = _
    rw [block_other (block_setCell _ (block_setCell _ HG.out)) (fun e => hn e.symm)]
    rfl
  · show (World.setCell _ _ _).heap[bt]? = _
    exact block_setCell _ (block_other (block_other HB.out hn) hn)
  · exact ((((Chg.refl _ w).setCell (.inl (.inr rfl)) _).setCell (.inl (.inr rfl)) _).setCell (.inl (.inl rfl)) _).drew
  · simp [World.setCell, World.drew]

end Go.Proofs.YtilkpmjkiohfdaaGreatDoor

/- The document's Run: how its world lies. -/
import Derived.Test.YtilkpmjkiohfdaaGreatDoorTlB
import Derived.Test.YtilkpmjkiohfdaaGreatDoorBookR
namespace Go.Proofs.YtilkpmjkiohfdaaGreatDoor
open Go.RowKit
set_option linter.unusedVariables false
set_option linter.unusedSimpArgs false

/-- a thread of the document's: what it is, where its stores lie, all of them, how many are written back -/
structure RX where
  th : Th
  dv : Value
  ws : List (Int × Int)
  back : Nat

def bits16 (m : Nat) : List Value := (List.range 16).map fun i => .bool (m.testBit i)
def ints16 (f : Nat → Int) : List Value := (List.range 16).map fun i => .int .i64 (f i)
theorem bits16_len (m : Nat) : (bits16 m).length = 16 := by simp [bits16]
theorem ints16_len (f : Nat → Int) : (ints16 f).length = 16 := by simp [ints16]
theorem bits16_at (m : Nat) {i : Nat} (h : i < 16) : (bits16 m)[i]? = some (.bool (m.testBit i)) := by simp [bits16, h]
theorem ints16_at (f : Nat → Int) {i : Nat} (h : i < 16) : (ints16 f)[i]? = some (.int .i64 (f i)) := by simp [ints16, h]

/-- a thread as cells: Phase, Clock, Reads, Writes, Held, Old, New, Back -/
def encRh (x : RX) : List Value :=
  [.int .i64 x.th.phase, .int .i64 x.th.clock] ++ bits16 x.th.reads ++ [x.dv] ++ bits16 x.th.held ++ ints16 x.th.old ++ [.int .i64 x.th.now, .int .i64 x.back]
theorem encRh_len : ∀ x, (encRh x).length = 53 := fun x => by simp [encRh, bits16_len, ints16_len]
theorem encRh_0 (x : RX) : (encRh x)[0]? = some (.int .i64 x.th.phase) := rfl
theorem encRh_1 (x : RX) : (encRh x)[1]? = some (.int .i64 x.th.clock) := rfl
theorem encRh_read (x : RX) {s : Nat} (h : s < 16) : (encRh x)[2 + s]? = some (.bool (x.th.reads.testBit s)) := by
  unfold encRh
  rw [List.append_assoc, List.append_assoc, List.append_assoc, List.append_assoc, List.getElem?_append_right (by simp), List.getElem?_append_left (by rw [bits16_len]; simp; omega)]
  rw [show 2 + s - [Value.int .i64 x.th.phase, .int .i64 x.th.clock].length = s from by simp]
  exact bits16_at _ h
theorem encRh_18 (x : RX) : (encRh x)[18]? = some x.dv := by
  unfold encRh
  rw [List.append_assoc, List.append_assoc, List.append_assoc, List.getElem?_append_right (by simp [bits16_len])]
  simp [bits16_len]
theorem encRh_held (x : RX) {s : Nat} (h : s < 16) : (encRh x)[19 + s]? = some (.bool (x.th.held.testBit s)) := by
  unfold encRh
  rw [List.append_assoc, List.append_assoc, List.getElem?_append_right (by simp [bits16_len]), List.getElem?_append_left (by simp [bits16_len]; omega)]
  rw [show 19 + s - ([Value.int .i64 x.th.phase, .int .i64 x.th.clock] ++ bits16 x.th.reads ++ [x.dv]).length = s from by simp [bits16_len]]
  exact bits16_at _ h
theorem encRh_old (x : RX) {s : Nat} (h : s < 16) : (encRh x)[35 + s]? = some (.int .i64 (x.th.old s)) := by
  unfold encRh
  rw [List.append_assoc, List.getElem?_append_right (by simp [bits16_len]), List.getElem?_append_left (by simp [bits16_len, ints16_len]; try omega)]
  rw [show 35 + s - ([Value.int .i64 x.th.phase, .int .i64 x.th.clock] ++ bits16 x.th.reads ++ [x.dv] ++ bits16 x.th.held).length = s from by simp [bits16_len]]
  exact ints16_at _ h
theorem encRh_51 (x : RX) : (encRh x)[51]? = some (.int .i64 x.th.now) := by
  unfold encRh
  rw [List.getElem?_append_right (by simp [bits16_len, ints16_len])]
  simp [bits16_len, ints16_len]
theorem encRh_52 (x : RX) : (encRh x)[52]? = some (.int .i64 x.back) := by
  unfold encRh
  rw [List.getElem?_append_right (by simp [bits16_len, ints16_len])]
  simp [bits16_len, ints16_len]

/-- a thread's stores: a row of its own; what is still to be written back is the log -/
def RLogAt (w : World) (base : Nat) (x : RX) : Prop :=
  (∀ g, x.dv.ownBlock = some g → base ≤ g ∧ g < w.heap.size) ∧ w.ownsRow base 76 2 x.dv x.ws.length (x.ws.flatMap encCell) ∧
    x.th.log = x.ws.drop x.back ∧ (x.back ≤ x.ws.length ∧ x.ws.length ≤ 64) ∧ (x.th.phase ≠ 3 → x.back = 0)

/-- the document's world in block b, its words in m, its threads in t -/
structure RtAt (w : World) (base b m t : Nat) (tw : TW) (ts : List RX) (ev : Value) : Prop where
  blk : w.heap[b]? = some (.cells (encW (.slice (some ⟨m, 0, none⟩) tw.mem.length tw.mem.length) tw.clock tw.locks (.slice (some ⟨t, 0, none⟩) ts.length ts.length) ev).toArray 161 (0, 0))
  mem : w.heap[m]? = some (.cells (tw.mem.map (Value.int .i64)).toArray 2 (0, 0))
  ths : w.heap[t]? = some (.cells (ts.flatMap encRh).toArray 360 (0, 0))
  same : tw.ths = ts.map RX.th
  evs : w.ownsRow base 126 4 ev tw.evs.length (tw.evs.flatMap encEv)
  log : ∀ (k : Nat) x, ts[k]? = some x → RLogAt w base x
  lb : base ≤ b
  lm : base ≤ m
  lt : base ≤ t
  bm : b ≠ m
  bt : b ≠ t
  mt : m ≠ t
  ev_ne : ∀ g, ev.ownBlock = some g → g ≠ b ∧ g ≠ m ∧ g ≠ t
  lg_ne : ∀ (k g : Nat) x, ts[k]? = some x → x.dv.ownBlock = some g → g ≠ b ∧ g ≠ m ∧ g ≠ t ∧ ev.ownBlock ≠ some g
  lg_lg : ∀ (j k g : Nat) x y, j ≠ k → ts[j]? = some x → ts[k]? = some y → x.dv.ownBlock = some g → y.dv.ownBlock ≠ some g
end Go.Proofs.YtilkpmjkiohfdaaGreatDoor

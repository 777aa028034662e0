/- The document's one: the instruction that begins at a place. (Written by mkisat.py.) -/
import Derived.Test.YtbfghkhfiflibaaGreatDoorIsaR2
import Derived.Test.YtbfghkhfiflibaaGreatDoorIsaC
import Derived.Deep.RegionHeld3
import Derived.Deep.MidRow
namespace Go.Proofs.YtbfghkhfiflibaaGreatDoor
open Go.RowKit
set_option linter.unusedVariables false
set_option linter.unusedSimpArgs false

/-- the instruction of a form, whose bytes begin at place p of a text -/
def opAt (bs : List UInt8) (p : Nat) (k : Int) (f : Fm) : OpD :=
  let c := if f.cal = true then 1 else 0
  ⟨k, if f.cal = true then at8 bs (p + 1) else 0, if 0 < f.regs then at8 bs (p + 1 + c) else 0, if 1 < f.regs then at8 bs (p + 1 + c + 1) else 0, if 2 < f.regs then at8 bs (p + 1 + c + 2) else 0, if f.n = true then num8 bs (p + 1 + c + f.regs) else 0⟩
def noOne : Value := .tuple #[.agg #[.int .u8 0, .int .u8 0, .int .u8 0, .int .u8 0, .int .u8 0, .int .i64 0], .int .i64 0, .bool false]
def oneV (bs : List UInt8) (p : Nat) (k : Int) (f : Fm) : Value :=
  if bs.length < p + 1 + needF f then noOne else .tuple #[.agg (encOp (opAt bs p k f)).toArray, .int .i64 ((p + 1 + needF f : Nat) : Int), .bool (checkS (opAt bs p k f))]

theorem opInfo6 : (Tryz.prog.info? 62).map (·.size) = some 6 := by kernel_rfl

/-- what one hands back: an instruction out of its own block, a number, a truth -/
theorem results_one {tmps : Array Value} {w : World} {g : Nat} {o : OpD} {a b : Value} (hg : tmps.getD 4 undef = .pointer (some ⟨g, 0, none⟩)) (h5 : tmps.getD 5 undef = a) (h6 : tmps.getD 6 undef = b) (hb : w.heap[g]? = some (.cells (encOp o).toArray 62 (0, 0))) :
    (results Tryz.f12 tmps).run Tryz.prog w = .ok (.tuple #[.agg (encOp o).toArray, a, b]) w := by
  have c0 : w.cell? ⟨g, 0, none⟩ = some (.int .u8 o.kind) := cell_of_block (o := 0) hb rfl
  have c1 : w.cell? ⟨g, 1, none⟩ = some (.int .u8 o.cal) := cell_of_block (o := 1) hb rfl
  have c2 : w.cell? ⟨g, 2, none⟩ = some (.int .u8 o.a) := cell_of_block (o := 2) hb rfl
  have c3 : w.cell? ⟨g, 3, none⟩ = some (.int .u8 o.b) := cell_of_block (o := 3) hb rfl
  have c4 : w.cell? ⟨g, 4, none⟩ = some (.int .u8 o.c) := cell_of_block (o := 4) hb rfl
  have c5 : w.cell? ⟨g, 5, none⟩ = some (.int .i64 o.n) := cell_of_block (o := 5) hb rfl
  simp only [Array.getD_eq_getD_getElem?] at hg h5 h6
  simp [results, Tryz.results12, hg, h5, h6, c0, c1, c2, c3, c4, c5, Result.andThen, go_sem, encOp]

theorem op_one (o : OpD) : (encOp o).toArray.all (·.oneCell') = true := all_oneCell_toArray (List.all_eq_true.1 (show (encOp o).all (·.oneCell') = true from rfl))
theorem setCells_part {t : TypeId} {f : Nat × Nat} (b : Nat) (B : List Value) : ∀ (vs mid A : List Value) (o : Nat) (w : World), w.heap[b]? = some (.cells (A ++ mid ++ B).toArray t f) → A.length = o → mid.length = vs.length →
    (w.setCells b o vs).heap[b]? = some (.cells (A ++ vs ++ B).toArray t f)
  | [], mid, A, o, w, h, _, hm => by
    have : mid = [] := List.eq_nil_of_length_eq_zero (by simpa using hm)
    subst this
    exact h
  | v :: r, [], A, o, w, h, _, hm => by simp at hm
  | v :: r, u :: mid, A, o, w, h, hA, hm => by
    have h1 := block_setCell (o := o) v h
    have e1 : ((A ++ u :: mid ++ B).toArray.setIfInBounds o v) = (A ++ [v] ++ mid ++ B).toArray := by
      subst hA
      simp [List.setIfInBounds_toArray, List.set_append]
    rw [e1] at h1
    have := setCells_part b B r mid (A ++ [v]) (o + 1) (w.setCell ⟨b, o, none⟩ v) h1 (by simp [hA]) (by simpa using hm)
    simpa [World.setCells] using this
theorem setCells_whole {w : World} {g : Nat} {c : Array Value} {t : TypeId} {f : Nat × Nat} {vs : List Value} (h : w.heap[g]? = some (.cells c t f)) (hl : c.size = vs.length) : (w.setCells g 0 vs).heap[g]? = some (.cells vs.toArray t f) := by
  have := setCells_part g [] vs c.toList [] 0 w (by simpa using h) rfl (by simpa using hl)
  simpa using this
theorem below_setCells {B : Nat} {a : World} {g : Nat} (hg : B ≤ g) (hB : B ≤ a.heap.size) : ∀ (vs : List Value) (o : Nat) {w : World}, Below B a w → Below B a (w.setCells g o vs)
  | [], _, _, h => h
  | v :: r, o, w, h => by
    rw [World.setCells]
    exact below_setCells hg hB r (o + 1) (Chg.below (S := fun k => k = g) h (Nat.le_trans hB h.size) ((Chg.refl (fun k => k = g) w).setCell (p := ⟨g, o, none⟩) (.inl rfl) v) (fun k hk => by omega))

theorem cell_far {w : World} {a p : Addr} {u v : Value} (h : w.cell? a = some v) (hn : ¬ a.block = p.block) : (w.setCell p u).cell? a = some v := by
  rw [World.cell?_of_block (w := w) (Below.heap_setCell _ _ _ _ hn)]; exact h

theorem at8_byte (l : List UInt8) (i : Nat) : 0 ≤ at8 l i ∧ at8 l i < 256 := by
  unfold at8
  have := (l.getD i 0).toNat_lt
  omega
theorem wrap_u64 (n : Int) : IntKind.u64.wrap n = n % 18446744073709551616 := by simp [IntKind.wrap, IntKind.bits, IntKind.signed]
/-- x shifted by eight without a sign, a byte laid in -/
theorem shl_or_u (x b : Int) (h0 : 0 ≤ b) (h1 : b < 256) : wrap64 (bits BinOp.or IntKind.u64 (IntKind.u64.wrap (IntKind.u64.wrap x * 256)) (IntKind.u64.wrap b)) = wr64 (x * 256 + b) := by
  obtain ⟨n, rfl⟩ : ∃ n : Nat, b = (n : Int) := ⟨b.toNat, by omega⟩
  have hn : n < 2 ^ 8 := by omega
  simp only [wrap_u64]
  unfold bits
  have e0 : (n : Int) % 18446744073709551616 = n := by omega
  rw [e0]
  show wrap64 (IntKind.u64.wrap ((BitVec.ofInt 64 (x % 18446744073709551616 * 256 % 18446744073709551616) ||| BitVec.ofInt 64 (n : Int)).toNat : Int)) = _
  have e1 : (BitVec.ofInt 64 (x % 18446744073709551616 * 256 % 18446744073709551616)).toNat = 256 * ((x % 72057594037927936).toNat) := by
    rw [BitVec.toNat_ofInt]
    omega
  have e2 : (BitVec.ofInt 64 (n : Int)).toNat = n := by
    rw [BitVec.toNat_ofInt]
    omega
  rw [BitVec.toNat_or, e1, e2]
  have e3 : 256 * ((x % 72057594037927936).toNat) ||| n = 256 * ((x % 72057594037927936).toNat) + n := by
    have := Nat.shiftLeft_add_eq_or_of_lt hn ((x % 72057594037927936).toNat)
    rw [Nat.shiftLeft_eq] at this
    rw [Nat.mul_comm]
    exact this.symm
  rw [e3, wrap_u64]
  unfold wrap64 wr64
  omega

theorem numP_rng (l : List UInt8) (i t : Nat) : -9223372036854775808 ≤ numP l i t ∧ numP l i t ≤ 9223372036854775807 := by
  cases t with
  | zero => simp [numP]
  | succ t => simp only [numP, wr64]; omega

/-- behind the call of Check: the instruction, and where it goes -/
theorem one_behind {w w6 : World} {b g : Nat} {oo : OpD} {T : TypeId} (hb : w.heap[b]? = some (.cells (encOp oo).toArray T (0, 0))) (hg : w.heap[g]? = some (.cells #[.int .u8 0, .int .u8 0, .int .u8 0, .int .u8 0, .int .u8 0, .int .i64 0] T (0, 0))) (h6 : Below w.drew.heap.size w.drew w6) :
    w6.cell? ⟨b, 0, none⟩ = some (.int .u8 oo.kind) ∧ w6.cell? ⟨b, 1, none⟩ = some (.int .u8 oo.cal) ∧ w6.cell? ⟨b, 2, none⟩ = some (.int .u8 oo.a) ∧ w6.cell? ⟨b, 3, none⟩ = some (.int .u8 oo.b) ∧ w6.cell? ⟨b, 4, none⟩ = some (.int .u8 oo.c) ∧ w6.cell? ⟨b, 5, none⟩ = some (.int .i64 oo.n) ∧
      w6.cell? ⟨g, 0, none⟩ = some (.int .u8 0) ∧ w6.cell? ⟨g, 1, none⟩ = some (.int .u8 0) ∧ w6.cell? ⟨g, 2, none⟩ = some (.int .u8 0) ∧ w6.cell? ⟨g, 3, none⟩ = some (.int .u8 0) ∧ w6.cell? ⟨g, 4, none⟩ = some (.int .u8 0) ∧ w6.cell? ⟨g, 5, none⟩ = some (.int .i64 0) ∧ ∀ i, w6.frozen? ⟨g, i, none⟩ = false := by
  have hb6 := blk (w := w.drew) h6 hb
  have hg6 := blk (w := w.drew) h6 hg
  exact ⟨cell_of_block (o := 0) hb6 rfl, cell_of_block (o := 1) hb6 rfl, cell_of_block (o := 2) hb6 rfl, cell_of_block (o := 3) hb6 rfl, cell_of_block (o := 4) hb6 rfl, cell_of_block (o := 5) hb6 rfl,
    cell_of_block (o := 0) hg6 rfl, cell_of_block (o := 1) hg6 rfl, cell_of_block (o := 2) hg6 rfl, cell_of_block (o := 3) hg6 rfl, cell_of_block (o := 4) hg6 rfl, cell_of_block (o := 5) hg6 rfl, fun i => free_of_block hg6⟩

def zeroOp : OpD := ⟨0, 0, 0, 0, 0, 0⟩

set_option maxHeartbeats 1000000 in
theorem one_none (w : World) (bs : List UInt8) (p : Nat) (hp : p < bs.length) (hf : formS (at8 bs p) = none) :
    Calls Tryz.prog 12 #[.string (strOf bs), .int .i64 (p : Int)] w fun e w' => e = .returned noOne ∧ Below w.heap.size w w' := by
  have hix := fun w => str_indexN bs p hp w
  have HF := hidI hf
  clear hf
  go_enter Tryz.func12, Tryz.ntmps12
  go_wp2_with fail
  refine (fields_any _ _).mono ?_
  rintro e w1 ⟨rfl, hb1⟩
  rw [HF.out]
  unfold fieldsV
  have hr := blkA hb1 (block_new w (.cells #[.int .u8 0, .int .u8 0, .int .u8 0, .int .u8 0, .int .u8 0, .int .i64 0] 62))
  have hr' : ∀ o : Obj, (w1.alloc o).heap[w.heap.size]? = some (.cells #[.int .u8 0, .int .u8 0, .int .u8 0, .int .u8 0, .int .u8 0, .int .i64 0] 62 (0, 0)) := fun o => block_alloc hr
  have q1 : ∀ o : Obj, (w1.alloc o).there w.heap.size 0 6 := fun o j hj => by
    rw [Nat.zero_add]
    exact ⟨by rw [cell_of_block (hr' o) (Array.getElem?_eq_getElem (by simpa using hj))]; rfl, free_of_block (hr' o)⟩
  have HB1 := hidI (((Below.refl w.heap.size w).alloc (Nat.le_refl _) (.cells #[.int .u8 0, .int .u8 0, .int .u8 0, .int .u8 0, .int .u8 0, .int .i64 0] 62)).alloc (by simp) (.cells #[.int .u8 (at8 bs p), .int .u8 0, .int .u8 0, .int .u8 0, .int .u8 0, .int .i64 0] 62) |>.trans (hb1.mono (by simp; omega)))
  have HR := hidI hr'
  clear hb1 hr
  go_wp2_with (refine wpList_store_mid rfl 62 _ _ rfl w.heap.size 0 (encOp zeroOp).toArray rfl rfl (q1 _) opInfo6 (op_one zeroOp) ?_)
  exact bodyPost_ret (v := noOne) (results_one (o := zeroOp) rfl rfl rfl (setCells_whole (HR.out _) rfl)) rfl ⟨rfl, below_setCells (Nat.le_refl _) (Nat.le_refl _) _ _ (HB1.out.alloc HB1.out.size _)⟩

set_option maxHeartbeats 2000000 in
theorem one_011 (w : World) (bs : List UInt8) (p : Nat) (hp : p < bs.length) (hbs : bs.length ≤ 9223372036854775807) (fl fM : Int) (hf : formS (at8 bs p) = some ⟨false, 1, true, fl, fM⟩) :
    Calls Tryz.prog 12 #[.string (strOf bs), .int .i64 (p : Int)] w fun e w' => e = .returned (oneV bs p (at8 bs p) ⟨false, 1, true, fl, fM⟩) ∧ Below w.heap.size w w' := by
  have hix := fun w => str_indexN bs p hp w
  have HF := hidI hf
  have HBS := hidI hbs
  have hsz := strOf_size bs
  have e1 : IntKind.i64.wrap ((bs.length : Int) - p) = bs.length - p := IntWalk.i64_in _ (by omega)
  clear hf hbs
  go_enter Tryz.func12, Tryz.ntmps12
  go_wp2_with fail
  refine (fields_any _ _).mono ?_
  rintro e w1 ⟨rfl, hb1⟩
  rw [HF.out]
  unfold fieldsV encFd
  have hr := blkA hb1 (block_new w (.cells #[.int .u8 0, .int .u8 0, .int .u8 0, .int .u8 0, .int .u8 0, .int .i64 0] 62))
  have hr' : ∀ o : Obj, (w1.alloc o).heap[w.heap.size]? = some (.cells #[.int .u8 0, .int .u8 0, .int .u8 0, .int .u8 0, .int .u8 0, .int .i64 0] 62 (0, 0)) := fun o => block_alloc hr
  have q1 : ∀ o : Obj, (w1.alloc o).there w.heap.size 0 6 := fun o j hj => by
    rw [Nat.zero_add]
    exact ⟨by rw [cell_of_block (hr' o) (Array.getElem?_eq_getElem (by simpa using hj))]; rfl, free_of_block (hr' o)⟩
  have HB1 := hidI (((Below.refl w.heap.size w).alloc (Nat.le_refl _) (.cells #[.int .u8 0, .int .u8 0, .int .u8 0, .int .u8 0, .int .u8 0, .int .i64 0] 62)).alloc (by simp) (.cells #[.int .u8 (at8 bs p), .int .u8 0, .int .u8 0, .int .u8 0, .int .u8 0, .int .i64 0] 62) |>.trans (hb1.mono (by simp; omega)))
  have HR := hidI hr'
  have HO := hidI (blk hb1 (block_new2 w (.cells #[.int .u8 0, .int .u8 0, .int .u8 0, .int .u8 0, .int .u8 0, .int .i64 0] 62) (.cells #[.int .u8 (at8 bs p), .int .u8 0, .int .u8 0, .int .u8 0, .int .u8 0, .int .i64 0] 62)))
  have HBX := hidI (show w.heap.size + 1 < w1.heap.size from by have := hb1.size; simp at this; omega)
  clear hb1 hr
  by_cases hs : bs.length < p + 10
  · have hlt : (bs.length : Int) - p < 10 := by omega
    go_wp2_with (refine wpList_store_mid rfl 62 _ _ rfl w.heap.size 0 (encOp zeroOp).toArray rfl rfl (q1 _) opInfo6 (op_one zeroOp) ?_)
    refine bodyPost_ret (v := noOne) (results_one (o := zeroOp) rfl rfl rfl (setCells_whole (HR.out _) rfl)) rfl ⟨?_, below_setCells (Nat.le_refl _) (Nat.le_refl _) _ _ (HB1.out.alloc HB1.out.size _)⟩
    unfold oneV
    rw [if_pos (by simp [needF]; omega)]
  · have hlt : ¬ ((bs.length : Int) - p < 10) := by omega
    have hcx : ∀ i, i < 10 → ∀ w, (Instr.index 9 (.string (strOf bs)) (.int .i64 ((p + i : Nat) : Int))).run Tryz.prog w = .ok (.int .u8 (at8 bs (p + i))) w := fun i hi w => str_indexN bs (p + i) (by omega) w
    have HCX := hidI hcx
    have hpb := HBS.out
    go_wp2_with fail
    have HP := hidI hpb
    clear hpb
    go_loopw [13, 1] (fun i v w' => ∃ j : Nat, j ≤ 1 ∧ i = .int .i64 (j : Int) ∧ v = .int .i64 ((p + 1 + j : Nat) : Int) ∧ Hid (w'.heap[w.heap.size + 1]? = some (.cells (encOp ⟨at8 bs p, 0, 0, 0, 0, 0⟩).toArray 62 (0, 0))) ∧
      Hid (w'.heap[w1.heap.size + 1]? = some (.cells #[.int .u8 (if 0 < j then at8 bs (p + 1) else 0), .int .u8 (if 1 < j then at8 bs (p + 1 + 1) else 0), .int .u8 (if 2 < j then at8 bs (p + 1 + 2) else 0)] 77 (0, 0))) ∧
      Hid (w'.heap[w1.heap.size]? = some (.cells #[.bool false, .int .i64 1, .bool true] 79 (0, 0))) ∧ Hid (w'.heap[w.heap.size]? = some (.cells #[.int .u8 0, .int .u8 0, .int .u8 0, .int .u8 0, .int .u8 0, .int .i64 0] 62 (0, 0))) ∧ Hid (Below w.heap.size w w')) (fun i _ _ => ((1 : Int) - intOf i).toNat)
    case atStart =>
      refine ⟨0, by omega, rfl, by first | rfl | (congr 1; omega) | congr 1, hidI ?_, hidI ?_, hidI ?_, hidI ?_, hidI ?_⟩
      · exact block_alloc (block_alloc HO.out)
      · rw [block_new2]; rfl
      · exact block_alloc (block_new w1 _)
      · exact block_alloc (HR.out _)
      · exact (HB1.out.alloc HB1.out.size _).alloc (by have := HB1.out.size; simp; omega) _
    case round =>
      obtain ⟨j, hj, rfl, hv, HOP, HRG, HFM, HRS, HBW⟩ := hrel
      obtain ⟨q, hq⟩ : ∃ q, p + 1 + j = q := ⟨_, rfl⟩
      rw [hq] at hv
      subst hv
      have f1 : wr.cell? ⟨w1.heap.size, 1, none⟩ = some (.int .i64 1) := cell_of_block (o := 1) HFM.out rfl
      have hbw := HB1.out.size
      by_cases hjl : j < 1
      · have hqi : ∀ w, (Instr.index 9 (.string (strOf bs)) (.int .i64 (q : Int))).run Tryz.prog w = .ok (.int .u8 (at8 bs q)) w := fun w => str_indexN bs q (by omega) w
        have hqw : IntKind.i64.wrap ((q : Int) + 1) = q + 1 := IntWalk.i64_in _ (by have := HBS.out; omega)
        have hnb : w.heap.size ≤ w1.heap.size := hbw
        rcases (by omega : j = 0) with rfl
        · have hrg : wr.heap[w1.heap.size + 1]? = some (.cells #[.int .u8 (0), .int .u8 (0), .int .u8 (0)] 77 (0, 0)) := by simpa using HRG.out
          have g1 := cell_of_block (o := 0) hrg rfl
          have g2 := free_of_block (o := 0) hrg
          have HRG2 := hidI (block_setCell (o := 0) (.int .u8 (at8 bs q)) hrg)
          clear hrg
          go_wp2_with fail
          refine ⟨⟨0 + 1, by omega, by go_num, by congr 1; omega, hidI ?_, hidI ?_, hidI ?_, hidI ?_, hidI ?_⟩, by simp [intOf]⟩
          · rw [Below.heap_setCell _ _ _ _ (by show w.heap.size + 1 ≠ w1.heap.size + 1; have := HBX.out; omega)]; exact HOP.out
          · rw [HRG2.out, ← hq]; rfl
          · rw [Below.heap_setCell _ _ _ _ (by show w1.heap.size ≠ w1.heap.size + 1; omega)]; exact HFM.out
          · rw [Below.heap_setCell _ _ _ _ (by show w.heap.size ≠ w1.heap.size + 1; omega)]; exact HRS.out
          · exact Chg.below (S := fun k => k = w1.heap.size + 1) HBW.out HBW.out.size ((Chg.refl (fun k => k = w1.heap.size + 1) wr).setCell (p := ⟨w1.heap.size + 1, 0, none⟩) (.inl rfl) _) (fun k hk => by omega)
      · obtain rfl : j = 1 := by omega
        have hrg : wr.heap[w1.heap.size + 1]? = some (.cells #[.int .u8 (at8 bs (p + 1)), .int .u8 (0), .int .u8 (0)] 77 (0, 0)) := by simpa using HRG.out
        have l0 := cell_of_block (o := 0) hrg rfl
        have l1 := cell_of_block (o := 1) hrg rfl
        have l2 := cell_of_block (o := 2) hrg rfl
        have o2 : wr.cell? ⟨w.heap.size + 1, 2, none⟩ = some (.int .u8 0) := cell_of_block (o := 2) HOP.out rfl
        have o3 : wr.cell? ⟨w.heap.size + 1, 3, none⟩ = some (.int .u8 0) := cell_of_block (o := 3) HOP.out rfl
        have o4 : wr.cell? ⟨w.heap.size + 1, 4, none⟩ = some (.int .u8 0) := cell_of_block (o := 4) HOP.out rfl
        have of : ∀ i, wr.frozen? ⟨w.heap.size + 1, i, none⟩ = false := fun i => free_of_block (o := i) HOP.out
        have hnn : ¬ w1.heap.size + 1 = w.heap.size + 1 := by have := HBX.out; omega
        clear hrg
        go_wp2_with fail
        go_region_held3 (fun w' => w'.cell? ⟨w1.heap.size + 1, 0, none⟩ = some (.int .u8 (at8 bs (p + 1))) ∧ w'.cell? ⟨w1.heap.size + 1, 1, none⟩ = some (.int .u8 (0)) ∧ w'.cell? ⟨w1.heap.size + 1, 2, none⟩ = some (.int .u8 (0)))
          (refine ⟨?_, ?_, ?_⟩ <;> (simp only [World.cell?_drew]; repeat (refine cell_far ?_ hnn)) <;> assumption) (fail)
        have hset := block_setCell (o := 4) (.int .u8 (0)) (block_setCell (o := 3) (.int .u8 (0)) (block_setCell (o := 2) (.int .u8 (at8 bs (p + 1))) HOP.out))
        have HOQ : Hid ((((wr.setCell ⟨w.heap.size + 1, 2, none⟩ (.int .u8 (at8 bs (p + 1)))).setCell ⟨w.heap.size + 1, 3, none⟩ (.int .u8 (0))).setCell ⟨w.heap.size + 1, 4, none⟩ (.int .u8 (0))).drew.heap[w.heap.size + 1]? = some (.cells (encOp ⟨at8 bs p, 0, at8 bs (p + 1), 0, 0, numP bs (p + 2) 0⟩).toArray 62 (0, 0))) := hidI hset
        have HRS2 : Hid ((((wr.setCell ⟨w.heap.size + 1, 2, none⟩ (.int .u8 (at8 bs (p + 1)))).setCell ⟨w.heap.size + 1, 3, none⟩ (.int .u8 (0))).setCell ⟨w.heap.size + 1, 4, none⟩ (.int .u8 (0))).drew.heap[w.heap.size]? = some (.cells #[.int .u8 0, .int .u8 0, .int .u8 0, .int .u8 0, .int .u8 0, .int .i64 0] 62 (0, 0))) := hidI (block_other (a := ⟨w.heap.size + 1, 4, none⟩) (u := .int .u8 (0)) (block_other (a := ⟨w.heap.size + 1, 3, none⟩) (u := .int .u8 (0)) (block_other (a := ⟨w.heap.size + 1, 2, none⟩) (u := .int .u8 (at8 bs (p + 1))) HRS.out (by simp)) (by simp)) (by simp))
        have HBW2 := hidI (Chg.below (S := fun k => k = w.heap.size + 1) HBW.out HBW.out.size (((((Chg.refl (fun k => k = w.heap.size + 1) wr).setCell (p := ⟨w.heap.size + 1, 2, none⟩) (.inl rfl) (.int .u8 (at8 bs (p + 1)))).setCell (p := ⟨w.heap.size + 1, 3, none⟩) (.inl rfl) (.int .u8 (0))).setCell (p := ⟨w.heap.size + 1, 4, none⟩) (.inl rfl) (.int .u8 (0))).drew) (fun k hk => by omega))
        clear l0 l1 l2 o2 o3 o4 of hset f1
        generalize (((wr.setCell ⟨w.heap.size + 1, 2, none⟩ (.int .u8 (at8 bs (p + 1)))).setCell ⟨w.heap.size + 1, 3, none⟩ (.int .u8 (0))).setCell ⟨w.heap.size + 1, 4, none⟩ (.int .u8 (0))).drew = w5 at HBW2 HOQ HRS2 ⊢
        obtain ⟨wj, rfl⟩ : ∃ x, x = wr := ⟨_, rfl⟩
        have hqe : q = p + 2 := by omega
        subst hqe
        clear hq hj hjl
        go_wp2_with fail
        go_loopw [1] (fun v w' => ∃ t : Nat, t ≤ 8 ∧ v = .int .i64 ((p + 2 + t : Nat) : Int) ∧ Hid (w'.heap[w.heap.size + 1]? = some (.cells (encOp ⟨at8 bs p, 0, at8 bs (p + 1), 0, 0, numP bs (p + 2) t⟩).toArray 62 (0, 0))) ∧
          Hid (w'.heap[w.heap.size]? = some (.cells #[.int .u8 0, .int .u8 0, .int .u8 0, .int .u8 0, .int .u8 0, .int .i64 0] 62 (0, 0))) ∧ Hid (Below w.heap.size w w')) (fun v _ => ((p + 10 : Int) - intOf v).toNat)
        case atStart => exact ⟨0, by omega, by simp, HOQ, HRS2, HBW2⟩
        case round =>
          obtain ⟨t, ht, hv, HO5, HR5, HB5⟩ := hrel
          obtain ⟨q, hq⟩ : ∃ q, p + 2 + t = q := ⟨_, rfl⟩
          rw [hq] at hv
          subst hv
          by_cases htl : t < 8
          · have hqi : ∀ w, (Instr.index 9 (.string (strOf bs)) (.int .i64 (q : Int))).run Tryz.prog w = .ok (.int .u8 (at8 bs q)) w := fun w => str_indexN bs q (by omega) w
            have hqw : IntKind.i64.wrap ((q : Int) + 1) = q + 1 := IntWalk.i64_in _ (by have := HBS.out; omega)
            have hqlt : (q : Int) < p + 10 := by omega
            have n5 : wr.cell? ⟨w.heap.size + 1, 5, none⟩ = some (.int .i64 (numP bs (p + 2) t)) := cell_of_block (o := 5) HO5.out rfl
            have nf : wr.frozen? ⟨w.heap.size + 1, 5, none⟩ = false := free_of_block (o := 5) HO5.out
            have hb0 : 0 ≤ at8 bs q ∧ at8 bs q < 256 := at8_byte bs q
            have HV := hidI (shl_or_u (numP bs (p + 2) t) (at8 bs q) hb0.1 hb0.2)
            have HNX := hidI (show wr64 (numP bs (p + 2) t * 256 + at8 bs q) = numP bs (p + 2) (t + 1) from by rw [← hq]; rfl)
            clear hb0
            go_wp2_with fail
            go_region
            rw [HV.out, HNX.out]
            have HS5 := hidI (block_setCell (o := 5) (.int .i64 (numP bs (p + 2) (t + 1))) HO5.out)
            clear n5 nf hqi hqlt
            go_wp2_with fail
            refine ⟨⟨t + 1, by omega, by congr 1; omega, hidI HS5.out, hidI ?_, hidI ?_⟩, by simp [intOf]; omega⟩
            · exact block_other (a := ⟨w.heap.size + 1, 5, none⟩) HR5.out (by simp)
            · exact Chg.below (S := fun k => k = w.heap.size + 1) HB5.out HB5.out.size (((Chg.refl (fun k => k = w.heap.size + 1) wr).setCell (p := ⟨w.heap.size + 1, 5, none⟩) (.inl rfl) _).drew) (fun k hk => by omega)
          · obtain rfl : t = 8 := by omega
            have hqe : q = p + 10 := by omega
            subst hqe
            have hge : ¬ (((p + 10 : Nat) : Int) < p + 10) := by omega
            obtain ⟨oo, hoo⟩ : ∃ o : OpD, o = ⟨at8 bs p, 0, at8 bs (p + 1), 0, 0, numP bs (p + 2) 8⟩ := ⟨_, rfl⟩
            have hO := HO5.out
            rw [← hoo] at hO
            have HOO := hidI hO
            have HEQ := hidI hoo
            clear hO hoo hq htl
            have HWO := hidI (show wfOp oo from by rw [HEQ.out]; exact ⟨at8_byte _ _, by first | exact at8_byte _ _ | (simp only; omega), by first | exact at8_byte _ _ | (simp only; omega), by first | exact at8_byte _ _ | (simp only; omega), by first | exact at8_byte _ _ | (simp only; omega), numP_rng _ _ _⟩)
            have k0 : wr.cell? ⟨w.heap.size + 1, 0, none⟩ = some (.int .u8 oo.kind) := cell_of_block (o := 0) HOO.out rfl
            have k1 : wr.cell? ⟨w.heap.size + 1, 1, none⟩ = some (.int .u8 oo.cal) := cell_of_block (o := 1) HOO.out rfl
            have k2 : wr.cell? ⟨w.heap.size + 1, 2, none⟩ = some (.int .u8 oo.a) := cell_of_block (o := 2) HOO.out rfl
            have k3 : wr.cell? ⟨w.heap.size + 1, 3, none⟩ = some (.int .u8 oo.b) := cell_of_block (o := 3) HOO.out rfl
            have k4 : wr.cell? ⟨w.heap.size + 1, 4, none⟩ = some (.int .u8 oo.c) := cell_of_block (o := 4) HOO.out rfl
            have k5 : wr.cell? ⟨w.heap.size + 1, 5, none⟩ = some (.int .i64 oo.n) := cell_of_block (o := 5) HOO.out rfl
            have HR6 := HR5
            have hgg : ¬ w.heap.size + 1 = w.heap.size := by omega
            have HB6 := HB5
            have hpb := HBS.out
            cases hck : checkS oo with
            | true =>
              have HCV := hidI (show codeV (checkS oo) = .int .i64 0 from by rw [hck]; rfl)
              have HCK := hidI hck
              clear hck hpb
              go_wp2_with fail
              go_region_held3 (fun w' => w'.cell? ⟨w.heap.size + 1, 0, none⟩ = some (.int .u8 oo.kind) ∧ w'.cell? ⟨w.heap.size + 1, 1, none⟩ = some (.int .u8 oo.cal) ∧ w'.cell? ⟨w.heap.size + 1, 2, none⟩ = some (.int .u8 oo.a) ∧ w'.cell? ⟨w.heap.size + 1, 3, none⟩ = some (.int .u8 oo.b) ∧ w'.cell? ⟨w.heap.size + 1, 4, none⟩ = some (.int .u8 oo.c) ∧ w'.cell? ⟨w.heap.size + 1, 5, none⟩ = some (.int .i64 oo.n))
                (refine ⟨?_, ?_, ?_, ?_, ?_, ?_⟩ <;> ((try simp only [World.cell?_drew]); repeat (refine cell_far ?_ hgg)) <;> assumption)
                (first | (go_at_call 95; refine (rcheck_any _ oo HWO.out).mono ?_; rintro e6 w6 ⟨he6, hb6⟩; rw [HCV.out] at he6; subst he6; obtain ⟨s0, s1, s2, s3, s4, s5, r0, r1, r2, r3, r4, r5, rf⟩ := one_behind HOO.out HR6.out hb6; have HB7 := hidI hb6; clear hb6))
              all_goals (
                have hr6 := blk (w := wr.drew) HB7.out HR6.out
                have hset := block_setCell (o := 5) (.int .i64 oo.n) (block_setCell (o := 4) (.int .u8 oo.c) (block_setCell (o := 3) (.int .u8 oo.b) (block_setCell (o := 2) (.int .u8 oo.a) (block_setCell (o := 1) (.int .u8 oo.cal) (block_setCell (o := 0) (.int .u8 oo.kind) hr6)))))
                have hv : oneV bs p (at8 bs p) ⟨false, 1, true, fl, fM⟩ = .tuple #[.agg (encOp oo).toArray, .int .i64 ((p : Int) + 10), .bool true] := by
                  have e : opAt bs p (at8 bs p) ⟨false, 1, true, fl, fM⟩ = oo := by rw [HEQ.out]; simp [opAt, numP, num8]
                  have e2 : ((p + 1 + needF ⟨false, 1, true, fl, fM⟩ : Nat) : Int) = (p : Int) + 10 := by first | (simp [needF]; done) | (simp [needF]; omega)
                  unfold oneV
                  rw [if_neg (by simp [needF]; omega), e, HCK.out, e2]
                have HSET := hidI hset
                have HVV := hidI hv
                clear hr6 hset hv s0 s1 s2 s3 s4 s5 r0 r1 r2 r3 r4 r5 rf k0 k1 k2 k3 k4 k5
                go_wp2_with fail
                refine bodyPost_ret (v := .tuple #[.agg (encOp oo).toArray, .int .i64 ((p : Int) + 10), .bool true]) (results_one (o := oo) rfl rfl rfl HSET.out) rfl ⟨by rw [HVV.out], ?_⟩
                have hb7 : Below w.heap.size w w6 := (below_drewN HB6.out 1).trans (HB7.out.mono HB6.out.size)
                have hc7 := ((((((Chg.refl (fun k => k = w.heap.size) w6).setCell (p := ⟨w.heap.size, 0, none⟩) (.inl rfl) (.int .u8 oo.kind)).setCell (p := ⟨w.heap.size, 1, none⟩) (.inl rfl) (.int .u8 oo.cal)).setCell (p := ⟨w.heap.size, 2, none⟩) (.inl rfl) (.int .u8 oo.a)).setCell (p := ⟨w.heap.size, 3, none⟩) (.inl rfl) (.int .u8 oo.b)).setCell (p := ⟨w.heap.size, 4, none⟩) (.inl rfl) (.int .u8 oo.c)).setCell (p := ⟨w.heap.size, 5, none⟩) (.inl rfl) (.int .i64 oo.n)
                exact Chg.below (S := fun k => k = w.heap.size) hb7 hb7.size hc7 (fun k hk => by omega))
            | false =>
              have HCV := hidI (show codeV (checkS oo) = .int .i64 1 from by rw [hck]; rfl)
              have HCK := hidI hck
              clear hck hpb
              go_wp2_with fail
              go_region_held3 (fun w' => w'.cell? ⟨w.heap.size + 1, 0, none⟩ = some (.int .u8 oo.kind) ∧ w'.cell? ⟨w.heap.size + 1, 1, none⟩ = some (.int .u8 oo.cal) ∧ w'.cell? ⟨w.heap.size + 1, 2, none⟩ = some (.int .u8 oo.a) ∧ w'.cell? ⟨w.heap.size + 1, 3, none⟩ = some (.int .u8 oo.b) ∧ w'.cell? ⟨w.heap.size + 1, 4, none⟩ = some (.int .u8 oo.c) ∧ w'.cell? ⟨w.heap.size + 1, 5, none⟩ = some (.int .i64 oo.n))
                (refine ⟨?_, ?_, ?_, ?_, ?_, ?_⟩ <;> ((try simp only [World.cell?_drew]); repeat (refine cell_far ?_ hgg)) <;> assumption)
                (first | (go_at_call 95; refine (rcheck_any _ oo HWO.out).mono ?_; rintro e6 w6 ⟨he6, hb6⟩; rw [HCV.out] at he6; subst he6; obtain ⟨s0, s1, s2, s3, s4, s5, r0, r1, r2, r3, r4, r5, rf⟩ := one_behind HOO.out HR6.out hb6; have HB7 := hidI hb6; clear hb6))
              all_goals (
                have hr6 := blk (w := wr.drew) HB7.out HR6.out
                have hset := block_setCell (o := 5) (.int .i64 oo.n) (block_setCell (o := 4) (.int .u8 oo.c) (block_setCell (o := 3) (.int .u8 oo.b) (block_setCell (o := 2) (.int .u8 oo.a) (block_setCell (o := 1) (.int .u8 oo.cal) (block_setCell (o := 0) (.int .u8 oo.kind) hr6)))))
                have hv : oneV bs p (at8 bs p) ⟨false, 1, true, fl, fM⟩ = .tuple #[.agg (encOp oo).toArray, .int .i64 ((p : Int) + 10), .bool false] := by
                  have e : opAt bs p (at8 bs p) ⟨false, 1, true, fl, fM⟩ = oo := by rw [HEQ.out]; simp [opAt, numP, num8]
                  have e2 : ((p + 1 + needF ⟨false, 1, true, fl, fM⟩ : Nat) : Int) = (p : Int) + 10 := by first | (simp [needF]; done) | (simp [needF]; omega)
                  unfold oneV
                  rw [if_neg (by simp [needF]; omega), e, HCK.out, e2]
                have HSET := hidI hset
                have HVV := hidI hv
                clear hr6 hset hv s0 s1 s2 s3 s4 s5 r0 r1 r2 r3 r4 r5 rf k0 k1 k2 k3 k4 k5
                go_wp2_with fail
                refine bodyPost_ret (v := .tuple #[.agg (encOp oo).toArray, .int .i64 ((p : Int) + 10), .bool false]) (results_one (o := oo) rfl rfl rfl HSET.out) rfl ⟨by rw [HVV.out], ?_⟩
                have hb7 : Below w.heap.size w w6 := (below_drewN HB6.out 1).trans (HB7.out.mono HB6.out.size)
                have hc7 := ((((((Chg.refl (fun k => k = w.heap.size) w6).setCell (p := ⟨w.heap.size, 0, none⟩) (.inl rfl) (.int .u8 oo.kind)).setCell (p := ⟨w.heap.size, 1, none⟩) (.inl rfl) (.int .u8 oo.cal)).setCell (p := ⟨w.heap.size, 2, none⟩) (.inl rfl) (.int .u8 oo.a)).setCell (p := ⟨w.heap.size, 3, none⟩) (.inl rfl) (.int .u8 oo.b)).setCell (p := ⟨w.heap.size, 4, none⟩) (.inl rfl) (.int .u8 oo.c)).setCell (p := ⟨w.heap.size, 5, none⟩) (.inl rfl) (.int .i64 oo.n)
                exact Chg.below (S := fun k => k = w.heap.size) hb7 hb7.size hc7 (fun k hk => by omega))

set_option maxHeartbeats 2000000 in
theorem one_020 (w : World) (bs : List UInt8) (p : Nat) (hp : p < bs.length) (hbs : bs.length ≤ 9223372036854775807) (fl fM : Int) (hf : formS (at8 bs p) = some ⟨false, 2, false, fl, fM⟩) :
    Calls Tryz.prog 12 #[.string (strOf bs), .int .i64 (p : Int)] w fun e w' => e = .returned (oneV bs p (at8 bs p) ⟨false, 2, false, fl, fM⟩) ∧ Below w.heap.size w w' := by
  have hix := fun w => str_indexN bs p hp w
  have HF := hidI hf
  have HBS := hidI hbs
  have hsz := strOf_size bs
  have e1 : IntKind.i64.wrap ((bs.length : Int) - p) = bs.length - p := IntWalk.i64_in _ (by omega)
  clear hf hbs
  go_enter Tryz.func12, Tryz.ntmps12
  go_wp2_with fail
  refine (fields_any _ _).mono ?_
  rintro e w1 ⟨rfl, hb1⟩
  rw [HF.out]
  unfold fieldsV encFd
  have hr := blkA hb1 (block_new w (.cells #[.int .u8 0, .int .u8 0, .int .u8 0, .int .u8 0, .int .u8 0, .int .i64 0] 62))
  have hr' : ∀ o : Obj, (w1.alloc o).heap[w.heap.size]? = some (.cells #[.int .u8 0, .int .u8 0, .int .u8 0, .int .u8 0, .int .u8 0, .int .i64 0] 62 (0, 0)) := fun o => block_alloc hr
  have q1 : ∀ o : Obj, (w1.alloc o).there w.heap.size 0 6 := fun o j hj => by
    rw [Nat.zero_add]
    exact ⟨by rw [cell_of_block (hr' o) (Array.getElem?_eq_getElem (by simpa using hj))]; rfl, free_of_block (hr' o)⟩
  have HB1 := hidI (((Below.refl w.heap.size w).alloc (Nat.le_refl _) (.cells #[.int .u8 0, .int .u8 0, .int .u8 0, .int .u8 0, .int .u8 0, .int .i64 0] 62)).alloc (by simp) (.cells #[.int .u8 (at8 bs p), .int .u8 0, .int .u8 0, .int .u8 0, .int .u8 0, .int .i64 0] 62) |>.trans (hb1.mono (by simp; omega)))
  have HR := hidI hr'
  have HO := hidI (blk hb1 (block_new2 w (.cells #[.int .u8 0, .int .u8 0, .int .u8 0, .int .u8 0, .int .u8 0, .int .i64 0] 62) (.cells #[.int .u8 (at8 bs p), .int .u8 0, .int .u8 0, .int .u8 0, .int .u8 0, .int .i64 0] 62)))
  have HBX := hidI (show w.heap.size + 1 < w1.heap.size from by have := hb1.size; simp at this; omega)
  clear hb1 hr
  by_cases hs : bs.length < p + 3
  · have hlt : (bs.length : Int) - p < 3 := by omega
    go_wp2_with (refine wpList_store_mid rfl 62 _ _ rfl w.heap.size 0 (encOp zeroOp).toArray rfl rfl (q1 _) opInfo6 (op_one zeroOp) ?_)
    refine bodyPost_ret (v := noOne) (results_one (o := zeroOp) rfl rfl rfl (setCells_whole (HR.out _) rfl)) rfl ⟨?_, below_setCells (Nat.le_refl _) (Nat.le_refl _) _ _ (HB1.out.alloc HB1.out.size _)⟩
    unfold oneV
    rw [if_pos (by simp [needF]; omega)]
  · have hlt : ¬ ((bs.length : Int) - p < 3) := by omega
    have hcx : ∀ i, i < 3 → ∀ w, (Instr.index 9 (.string (strOf bs)) (.int .i64 ((p + i : Nat) : Int))).run Tryz.prog w = .ok (.int .u8 (at8 bs (p + i))) w := fun i hi w => str_indexN bs (p + i) (by omega) w
    have HCX := hidI hcx
    have hpb := HBS.out
    go_wp2_with fail
    have HP := hidI hpb
    clear hpb
    go_loopw [13, 1] (fun i v w' => ∃ j : Nat, j ≤ 2 ∧ i = .int .i64 (j : Int) ∧ v = .int .i64 ((p + 1 + j : Nat) : Int) ∧ Hid (w'.heap[w.heap.size + 1]? = some (.cells (encOp ⟨at8 bs p, 0, 0, 0, 0, 0⟩).toArray 62 (0, 0))) ∧
      Hid (w'.heap[w1.heap.size + 1]? = some (.cells #[.int .u8 (if 0 < j then at8 bs (p + 1) else 0), .int .u8 (if 1 < j then at8 bs (p + 1 + 1) else 0), .int .u8 (if 2 < j then at8 bs (p + 1 + 2) else 0)] 77 (0, 0))) ∧
      Hid (w'.heap[w1.heap.size]? = some (.cells #[.bool false, .int .i64 2, .bool false] 79 (0, 0))) ∧ Hid (w'.heap[w.heap.size]? = some (.cells #[.int .u8 0, .int .u8 0, .int .u8 0, .int .u8 0, .int .u8 0, .int .i64 0] 62 (0, 0))) ∧ Hid (Below w.heap.size w w')) (fun i _ _ => ((2 : Int) - intOf i).toNat)
    case atStart =>
      refine ⟨0, by omega, rfl, by first | rfl | (congr 1; omega) | congr 1, hidI ?_, hidI ?_, hidI ?_, hidI ?_, hidI ?_⟩
      · exact block_alloc (block_alloc HO.out)
      · rw [block_new2]; rfl
      · exact block_alloc (block_new w1 _)
      · exact block_alloc (HR.out _)
      · exact (HB1.out.alloc HB1.out.size _).alloc (by have := HB1.out.size; simp; omega) _
    case round =>
      obtain ⟨j, hj, rfl, hv, HOP, HRG, HFM, HRS, HBW⟩ := hrel
      obtain ⟨q, hq⟩ : ∃ q, p + 1 + j = q := ⟨_, rfl⟩
      rw [hq] at hv
      subst hv
      have f1 : wr.cell? ⟨w1.heap.size, 1, none⟩ = some (.int .i64 2) := cell_of_block (o := 1) HFM.out rfl
      have hbw := HB1.out.size
      by_cases hjl : j < 2
      · have hqi : ∀ w, (Instr.index 9 (.string (strOf bs)) (.int .i64 (q : Int))).run Tryz.prog w = .ok (.int .u8 (at8 bs q)) w := fun w => str_indexN bs q (by omega) w
        have hqw : IntKind.i64.wrap ((q : Int) + 1) = q + 1 := IntWalk.i64_in _ (by have := HBS.out; omega)
        have hnb : w.heap.size ≤ w1.heap.size := hbw
        rcases (by omega : j = 0 ∨ j = 1) with rfl | rfl
        · have hrg : wr.heap[w1.heap.size + 1]? = some (.cells #[.int .u8 (0), .int .u8 (0), .int .u8 (0)] 77 (0, 0)) := by simpa using HRG.out
          have g1 := cell_of_block (o := 0) hrg rfl
          have g2 := free_of_block (o := 0) hrg
          have HRG2 := hidI (block_setCell (o := 0) (.int .u8 (at8 bs q)) hrg)
          clear hrg
          go_wp2_with fail
          refine ⟨⟨0 + 1, by omega, by go_num, by congr 1; omega, hidI ?_, hidI ?_, hidI ?_, hidI ?_, hidI ?_⟩, by simp [intOf]⟩
          · rw [Below.heap_setCell _ _ _ _ (by show w.heap.size + 1 ≠ w1.heap.size + 1; have := HBX.out; omega)]; exact HOP.out
          · rw [HRG2.out, ← hq]; rfl
          · rw [Below.heap_setCell _ _ _ _ (by show w1.heap.size ≠ w1.heap.size + 1; omega)]; exact HFM.out
          · rw [Below.heap_setCell _ _ _ _ (by show w.heap.size ≠ w1.heap.size + 1; omega)]; exact HRS.out
          · exact Chg.below (S := fun k => k = w1.heap.size + 1) HBW.out HBW.out.size ((Chg.refl (fun k => k = w1.heap.size + 1) wr).setCell (p := ⟨w1.heap.size + 1, 0, none⟩) (.inl rfl) _) (fun k hk => by omega)
        · have hrg : wr.heap[w1.heap.size + 1]? = some (.cells #[.int .u8 (at8 bs (p + 1)), .int .u8 (0), .int .u8 (0)] 77 (0, 0)) := by simpa using HRG.out
          have g1 := cell_of_block (o := 1) hrg rfl
          have g2 := free_of_block (o := 1) hrg
          have HRG2 := hidI (block_setCell (o := 1) (.int .u8 (at8 bs q)) hrg)
          clear hrg
          go_wp2_with fail
          refine ⟨⟨1 + 1, by omega, by go_num, by congr 1; omega, hidI ?_, hidI ?_, hidI ?_, hidI ?_, hidI ?_⟩, by simp [intOf]⟩
          · rw [Below.heap_setCell _ _ _ _ (by show w.heap.size + 1 ≠ w1.heap.size + 1; have := HBX.out; omega)]; exact HOP.out
          · rw [HRG2.out, ← hq]; rfl
          · rw [Below.heap_setCell _ _ _ _ (by show w1.heap.size ≠ w1.heap.size + 1; omega)]; exact HFM.out
          · rw [Below.heap_setCell _ _ _ _ (by show w.heap.size ≠ w1.heap.size + 1; omega)]; exact HRS.out
          · exact Chg.below (S := fun k => k = w1.heap.size + 1) HBW.out HBW.out.size ((Chg.refl (fun k => k = w1.heap.size + 1) wr).setCell (p := ⟨w1.heap.size + 1, 1, none⟩) (.inl rfl) _) (fun k hk => by omega)
      · obtain rfl : j = 2 := by omega
        have hrg : wr.heap[w1.heap.size + 1]? = some (.cells #[.int .u8 (at8 bs (p + 1)), .int .u8 (at8 bs (p + 1 + 1)), .int .u8 (0)] 77 (0, 0)) := by simpa using HRG.out
        have l0 := cell_of_block (o := 0) hrg rfl
        have l1 := cell_of_block (o := 1) hrg rfl
        have l2 := cell_of_block (o := 2) hrg rfl
        have o2 : wr.cell? ⟨w.heap.size + 1, 2, none⟩ = some (.int .u8 0) := cell_of_block (o := 2) HOP.out rfl
        have o3 : wr.cell? ⟨w.heap.size + 1, 3, none⟩ = some (.int .u8 0) := cell_of_block (o := 3) HOP.out rfl
        have o4 : wr.cell? ⟨w.heap.size + 1, 4, none⟩ = some (.int .u8 0) := cell_of_block (o := 4) HOP.out rfl
        have of : ∀ i, wr.frozen? ⟨w.heap.size + 1, i, none⟩ = false := fun i => free_of_block (o := i) HOP.out
        have hnn : ¬ w1.heap.size + 1 = w.heap.size + 1 := by have := HBX.out; omega
        clear hrg
        go_wp2_with fail
        go_region_held3 (fun w' => w'.cell? ⟨w1.heap.size + 1, 0, none⟩ = some (.int .u8 (at8 bs (p + 1))) ∧ w'.cell? ⟨w1.heap.size + 1, 1, none⟩ = some (.int .u8 (at8 bs (p + 1 + 1))) ∧ w'.cell? ⟨w1.heap.size + 1, 2, none⟩ = some (.int .u8 (0)))
          (refine ⟨?_, ?_, ?_⟩ <;> (simp only [World.cell?_drew]; repeat (refine cell_far ?_ hnn)) <;> assumption) (fail)
        have hset := block_setCell (o := 4) (.int .u8 (0)) (block_setCell (o := 3) (.int .u8 (at8 bs (p + 1 + 1))) (block_setCell (o := 2) (.int .u8 (at8 bs (p + 1))) HOP.out))
        have HOQ : Hid ((((wr.setCell ⟨w.heap.size + 1, 2, none⟩ (.int .u8 (at8 bs (p + 1)))).setCell ⟨w.heap.size + 1, 3, none⟩ (.int .u8 (at8 bs (p + 1 + 1)))).setCell ⟨w.heap.size + 1, 4, none⟩ (.int .u8 (0))).drew.heap[w.heap.size + 1]? = some (.cells (encOp ⟨at8 bs p, 0, at8 bs (p + 1), at8 bs (p + 1 + 1), 0, numP bs (p + 3) 0⟩).toArray 62 (0, 0))) := hidI hset
        have HRS2 : Hid ((((wr.setCell ⟨w.heap.size + 1, 2, none⟩ (.int .u8 (at8 bs (p + 1)))).setCell ⟨w.heap.size + 1, 3, none⟩ (.int .u8 (at8 bs (p + 1 + 1)))).setCell ⟨w.heap.size + 1, 4, none⟩ (.int .u8 (0))).drew.heap[w.heap.size]? = some (.cells #[.int .u8 0, .int .u8 0, .int .u8 0, .int .u8 0, .int .u8 0, .int .i64 0] 62 (0, 0))) := hidI (block_other (a := ⟨w.heap.size + 1, 4, none⟩) (u := .int .u8 (0)) (block_other (a := ⟨w.heap.size + 1, 3, none⟩) (u := .int .u8 (at8 bs (p + 1 + 1))) (block_other (a := ⟨w.heap.size + 1, 2, none⟩) (u := .int .u8 (at8 bs (p + 1))) HRS.out (by simp)) (by simp)) (by simp))
        have HBW2 := hidI (Chg.below (S := fun k => k = w.heap.size + 1) HBW.out HBW.out.size (((((Chg.refl (fun k => k = w.heap.size + 1) wr).setCell (p := ⟨w.heap.size + 1, 2, none⟩) (.inl rfl) (.int .u8 (at8 bs (p + 1)))).setCell (p := ⟨w.heap.size + 1, 3, none⟩) (.inl rfl) (.int .u8 (at8 bs (p + 1 + 1)))).setCell (p := ⟨w.heap.size + 1, 4, none⟩) (.inl rfl) (.int .u8 (0))).drew) (fun k hk => by omega))
        clear l0 l1 l2 o2 o3 o4 of hset f1
        generalize (((wr.setCell ⟨w.heap.size + 1, 2, none⟩ (.int .u8 (at8 bs (p + 1)))).setCell ⟨w.heap.size + 1, 3, none⟩ (.int .u8 (at8 bs (p + 1 + 1)))).setCell ⟨w.heap.size + 1, 4, none⟩ (.int .u8 (0))).drew = w5 at HBW2 HOQ HRS2 ⊢
        obtain ⟨wj, rfl⟩ : ∃ x, x = wr := ⟨_, rfl⟩
        have hqe : q = p + 3 := by omega
        subst hqe
        clear hq hj hjl
        go_wp2_with fail
        go_loopw [1] (fun v w' => ∃ t : Nat, t ≤ 0 ∧ v = .int .i64 ((p + 3 + t : Nat) : Int) ∧ Hid (w'.heap[w.heap.size + 1]? = some (.cells (encOp ⟨at8 bs p, 0, at8 bs (p + 1), at8 bs (p + 1 + 1), 0, numP bs (p + 3) t⟩).toArray 62 (0, 0))) ∧
          Hid (w'.heap[w.heap.size]? = some (.cells #[.int .u8 0, .int .u8 0, .int .u8 0, .int .u8 0, .int .u8 0, .int .i64 0] 62 (0, 0))) ∧ Hid (Below w.heap.size w w')) (fun v _ => ((p + 3 : Int) - intOf v).toNat)
        case atStart => exact ⟨0, by omega, by simp, HOQ, HRS2, HBW2⟩
        case round =>
          obtain ⟨t, ht, hv, HO5, HR5, HB5⟩ := hrel
          obtain ⟨q, hq⟩ : ∃ q, p + 3 + t = q := ⟨_, rfl⟩
          rw [hq] at hv
          subst hv
          by_cases htl : t < 0
          · exact absurd htl (by omega)
          · obtain rfl : t = 0 := by omega
            have hqe : q = p + 3 := by omega
            subst hqe
            have hge : ¬ (((p + 3 : Nat) : Int) < p + 3) := by omega
            obtain ⟨oo, hoo⟩ : ∃ o : OpD, o = ⟨at8 bs p, 0, at8 bs (p + 1), at8 bs (p + 1 + 1), 0, numP bs (p + 3) 0⟩ := ⟨_, rfl⟩
            have hO := HO5.out
            rw [← hoo] at hO
            have HOO := hidI hO
            have HEQ := hidI hoo
            clear hO hoo hq htl
            have HWO := hidI (show wfOp oo from by rw [HEQ.out]; exact ⟨at8_byte _ _, by first | exact at8_byte _ _ | (simp only; omega), by first | exact at8_byte _ _ | (simp only; omega), by first | exact at8_byte _ _ | (simp only; omega), by first | exact at8_byte _ _ | (simp only; omega), numP_rng _ _ _⟩)
            have k0 : wr.cell? ⟨w.heap.size + 1, 0, none⟩ = some (.int .u8 oo.kind) := cell_of_block (o := 0) HOO.out rfl
            have k1 : wr.cell? ⟨w.heap.size + 1, 1, none⟩ = some (.int .u8 oo.cal) := cell_of_block (o := 1) HOO.out rfl
            have k2 : wr.cell? ⟨w.heap.size + 1, 2, none⟩ = some (.int .u8 oo.a) := cell_of_block (o := 2) HOO.out rfl
            have k3 : wr.cell? ⟨w.heap.size + 1, 3, none⟩ = some (.int .u8 oo.b) := cell_of_block (o := 3) HOO.out rfl
            have k4 : wr.cell? ⟨w.heap.size + 1, 4, none⟩ = some (.int .u8 oo.c) := cell_of_block (o := 4) HOO.out rfl
            have k5 : wr.cell? ⟨w.heap.size + 1, 5, none⟩ = some (.int .i64 oo.n) := cell_of_block (o := 5) HOO.out rfl
            have HR6 := HR5
            have hgg : ¬ w.heap.size + 1 = w.heap.size := by omega
            have HB6 := HB5
            have hpb := HBS.out
            cases hck : checkS oo with
            | true =>
              have HCV := hidI (show codeV (checkS oo) = .int .i64 0 from by rw [hck]; rfl)
              have HCK := hidI hck
              clear hck hpb
              go_wp2_with fail
              go_region_held3 (fun w' => w'.cell? ⟨w.heap.size + 1, 0, none⟩ = some (.int .u8 oo.kind) ∧ w'.cell? ⟨w.heap.size + 1, 1, none⟩ = some (.int .u8 oo.cal) ∧ w'.cell? ⟨w.heap.size + 1, 2, none⟩ = some (.int .u8 oo.a) ∧ w'.cell? ⟨w.heap.size + 1, 3, none⟩ = some (.int .u8 oo.b) ∧ w'.cell? ⟨w.heap.size + 1, 4, none⟩ = some (.int .u8 oo.c) ∧ w'.cell? ⟨w.heap.size + 1, 5, none⟩ = some (.int .i64 oo.n))
                (refine ⟨?_, ?_, ?_, ?_, ?_, ?_⟩ <;> ((try simp only [World.cell?_drew]); repeat (refine cell_far ?_ hgg)) <;> assumption)
                (first | (go_at_call 95; refine (rcheck_any _ oo HWO.out).mono ?_; rintro e6 w6 ⟨he6, hb6⟩; rw [HCV.out] at he6; subst he6; obtain ⟨s0, s1, s2, s3, s4, s5, r0, r1, r2, r3, r4, r5, rf⟩ := one_behind HOO.out HR6.out hb6; have HB7 := hidI hb6; clear hb6))
              all_goals (
                have hr6 := blk (w := wr.drew) HB7.out HR6.out
                have hset := block_setCell (o := 5) (.int .i64 oo.n) (block_setCell (o := 4) (.int .u8 oo.c) (block_setCell (o := 3) (.int .u8 oo.b) (block_setCell (o := 2) (.int .u8 oo.a) (block_setCell (o := 1) (.int .u8 oo.cal) (block_setCell (o := 0) (.int .u8 oo.kind) hr6)))))
                have hv : oneV bs p (at8 bs p) ⟨false, 2, false, fl, fM⟩ = .tuple #[.agg (encOp oo).toArray, .int .i64 ((p : Int) + 3), .bool true] := by
                  have e : opAt bs p (at8 bs p) ⟨false, 2, false, fl, fM⟩ = oo := by rw [HEQ.out]; simp [opAt, numP, num8]
                  have e2 : ((p + 1 + needF ⟨false, 2, false, fl, fM⟩ : Nat) : Int) = (p : Int) + 3 := by first | (simp [needF]; done) | (simp [needF]; omega)
                  unfold oneV
                  rw [if_neg (by simp [needF]; omega), e, HCK.out, e2]
                have HSET := hidI hset
                have HVV := hidI hv
                clear hr6 hset hv s0 s1 s2 s3 s4 s5 r0 r1 r2 r3 r4 r5 rf k0 k1 k2 k3 k4 k5
                go_wp2_with fail
                refine bodyPost_ret (v := .tuple #[.agg (encOp oo).toArray, .int .i64 ((p : Int) + 3), .bool true]) (results_one (o := oo) rfl rfl rfl HSET.out) rfl ⟨by rw [HVV.out], ?_⟩
                have hb7 : Below w.heap.size w w6 := (below_drewN HB6.out 1).trans (HB7.out.mono HB6.out.size)
                have hc7 := ((((((Chg.refl (fun k => k = w.heap.size) w6).setCell (p := ⟨w.heap.size, 0, none⟩) (.inl rfl) (.int .u8 oo.kind)).setCell (p := ⟨w.heap.size, 1, none⟩) (.inl rfl) (.int .u8 oo.cal)).setCell (p := ⟨w.heap.size, 2, none⟩) (.inl rfl) (.int .u8 oo.a)).setCell (p := ⟨w.heap.size, 3, none⟩) (.inl rfl) (.int .u8 oo.b)).setCell (p := ⟨w.heap.size, 4, none⟩) (.inl rfl) (.int .u8 oo.c)).setCell (p := ⟨w.heap.size, 5, none⟩) (.inl rfl) (.int .i64 oo.n)
                exact Chg.below (S := fun k => k = w.heap.size) hb7 hb7.size hc7 (fun k hk => by omega))
            | false =>
              have HCV := hidI (show codeV (checkS oo) = .int .i64 1 from by rw [hck]; rfl)
              have HCK := hidI hck
              clear hck hpb
              go_wp2_with fail
              go_region_held3 (fun w' => w'.cell? ⟨w.heap.size + 1, 0, none⟩ = some (.int .u8 oo.kind) ∧ w'.cell? ⟨w.heap.size + 1, 1, none⟩ = some (.int .u8 oo.cal) ∧ w'.cell? ⟨w.heap.size + 1, 2, none⟩ = some (.int .u8 oo.a) ∧ w'.cell? ⟨w.heap.size + 1, 3, none⟩ = some (.int .u8 oo.b) ∧ w'.cell? ⟨w.heap.size + 1, 4, none⟩ = some (.int .u8 oo.c) ∧ w'.cell? ⟨w.heap.size + 1, 5, none⟩ = some (.int .i64 oo.n))
                (refine ⟨?_, ?_, ?_, ?_, ?_, ?_⟩ <;> ((try simp only [World.cell?_drew]); repeat (refine cell_far ?_ hgg)) <;> assumption)
                (first | (go_at_call 95; refine (rcheck_any _ oo HWO.out).mono ?_; rintro e6 w6 ⟨he6, hb6⟩; rw [HCV.out] at he6; subst he6; obtain ⟨s0, s1, s2, s3, s4, s5, r0, r1, r2, r3, r4, r5, rf⟩ := one_behind HOO.out HR6.out hb6; have HB7 := hidI hb6; clear hb6))
              all_goals (
                have hr6 := blk (w := wr.drew) HB7.out HR6.out
                have hset := block_setCell (o := 5) (.int .i64 oo.n) (block_setCell (o := 4) (.int .u8 oo.c) (block_setCell (o := 3) (.int .u8 oo.b) (block_setCell (o := 2) (.int .u8 oo.a) (block_setCell (o := 1) (.int .u8 oo.cal) (block_setCell (o := 0) (.int .u8 oo.kind) hr6)))))
                have hv : oneV bs p (at8 bs p) ⟨false, 2, false, fl, fM⟩ = .tuple #[.agg (encOp oo).toArray, .int .i64 ((p : Int) + 3), .bool false] := by
                  have e : opAt bs p (at8 bs p) ⟨false, 2, false, fl, fM⟩ = oo := by rw [HEQ.out]; simp [opAt, numP, num8]
                  have e2 : ((p + 1 + needF ⟨false, 2, false, fl, fM⟩ : Nat) : Int) = (p : Int) + 3 := by first | (simp [needF]; done) | (simp [needF]; omega)
                  unfold oneV
                  rw [if_neg (by simp [needF]; omega), e, HCK.out, e2]
                have HSET := hidI hset
                have HVV := hidI hv
                clear hr6 hset hv s0 s1 s2 s3 s4 s5 r0 r1 r2 r3 r4 r5 rf k0 k1 k2 k3 k4 k5
                go_wp2_with fail
                refine bodyPost_ret (v := .tuple #[.agg (encOp oo).toArray, .int .i64 ((p : Int) + 3), .bool false]) (results_one (o := oo) rfl rfl rfl HSET.out) rfl ⟨by rw [HVV.out], ?_⟩
                have hb7 : Below w.heap.size w w6 := (below_drewN HB6.out 1).trans (HB7.out.mono HB6.out.size)
                have hc7 := ((((((Chg.refl (fun k => k = w.heap.size) w6).setCell (p := ⟨w.heap.size, 0, none⟩) (.inl rfl) (.int .u8 oo.kind)).setCell (p := ⟨w.heap.size, 1, none⟩) (.inl rfl) (.int .u8 oo.cal)).setCell (p := ⟨w.heap.size, 2, none⟩) (.inl rfl) (.int .u8 oo.a)).setCell (p := ⟨w.heap.size, 3, none⟩) (.inl rfl) (.int .u8 oo.b)).setCell (p := ⟨w.heap.size, 4, none⟩) (.inl rfl) (.int .u8 oo.c)).setCell (p := ⟨w.heap.size, 5, none⟩) (.inl rfl) (.int .i64 oo.n)
                exact Chg.below (S := fun k => k = w.heap.size) hb7 hb7.size hc7 (fun k hk => by omega))

set_option maxHeartbeats 2000000 in
theorem one_120 (w : World) (bs : List UInt8) (p : Nat) (hp : p < bs.length) (hbs : bs.length ≤ 9223372036854775807) (fl fM : Int) (hf : formS (at8 bs p) = some ⟨true, 2, false, fl, fM⟩) :
    Calls Tryz.prog 12 #[.string (strOf bs), .int .i64 (p : Int)] w fun e w' => e = .returned (oneV bs p (at8 bs p) ⟨true, 2, false, fl, fM⟩) ∧ Below w.heap.size w w' := by
  have hix := fun w => str_indexN bs p hp w
  have HF := hidI hf
  have HBS := hidI hbs
  have hsz := strOf_size bs
  have e1 : IntKind.i64.wrap ((bs.length : Int) - p) = bs.length - p := IntWalk.i64_in _ (by omega)
  clear hf hbs
  go_enter Tryz.func12, Tryz.ntmps12
  go_wp2_with fail
  refine (fields_any _ _).mono ?_
  rintro e w1 ⟨rfl, hb1⟩
  rw [HF.out]
  unfold fieldsV encFd
  have hr := blkA hb1 (block_new w (.cells #[.int .u8 0, .int .u8 0, .int .u8 0, .int .u8 0, .int .u8 0, .int .i64 0] 62))
  have hr' : ∀ o : Obj, (w1.alloc o).heap[w.heap.size]? = some (.cells #[.int .u8 0, .int .u8 0, .int .u8 0, .int .u8 0, .int .u8 0, .int .i64 0] 62 (0, 0)) := fun o => block_alloc hr
  have q1 : ∀ o : Obj, (w1.alloc o).there w.heap.size 0 6 := fun o j hj => by
    rw [Nat.zero_add]
    exact ⟨by rw [cell_of_block (hr' o) (Array.getElem?_eq_getElem (by simpa using hj))]; rfl, free_of_block (hr' o)⟩
  have HB1 := hidI (((Below.refl w.heap.size w).alloc (Nat.le_refl _) (.cells #[.int .u8 0, .int .u8 0, .int .u8 0, .int .u8 0, .int .u8 0, .int .i64 0] 62)).alloc (by simp) (.cells #[.int .u8 (at8 bs p), .int .u8 0, .int .u8 0, .int .u8 0, .int .u8 0, .int .i64 0] 62) |>.trans (hb1.mono (by simp; omega)))
  have HR := hidI hr'
  have HO := hidI (blk hb1 (block_new2 w (.cells #[.int .u8 0, .int .u8 0, .int .u8 0, .int .u8 0, .int .u8 0, .int .i64 0] 62) (.cells #[.int .u8 (at8 bs p), .int .u8 0, .int .u8 0, .int .u8 0, .int .u8 0, .int .i64 0] 62)))
  have HBX := hidI (show w.heap.size + 1 < w1.heap.size from by have := hb1.size; simp at this; omega)
  clear hb1 hr
  by_cases hs : bs.length < p + 4
  · have hlt : (bs.length : Int) - p < 4 := by omega
    go_wp2_with (refine wpList_store_mid rfl 62 _ _ rfl w.heap.size 0 (encOp zeroOp).toArray rfl rfl (q1 _) opInfo6 (op_one zeroOp) ?_)
    refine bodyPost_ret (v := noOne) (results_one (o := zeroOp) rfl rfl rfl (setCells_whole (HR.out _) rfl)) rfl ⟨?_, below_setCells (Nat.le_refl _) (Nat.le_refl _) _ _ (HB1.out.alloc HB1.out.size _)⟩
    unfold oneV
    rw [if_pos (by simp [needF]; omega)]
  · have hlt : ¬ ((bs.length : Int) - p < 4) := by omega
    have hcx : ∀ i, i < 4 → ∀ w, (Instr.index 9 (.string (strOf bs)) (.int .i64 ((p + i : Nat) : Int))).run Tryz.prog w = .ok (.int .u8 (at8 bs (p + i))) w := fun i hi w => str_indexN bs (p + i) (by omega) w
    have HCX := hidI hcx
    have hpb := HBS.out
    have hca : ∀ w, (Instr.index 9 (.string (strOf bs)) (.int .i64 ((p : Int) + 1))).run Tryz.prog w = .ok (.int .u8 (at8 bs (p + 1))) w := fun w => by
      rw [show ((p : Int) + 1) = ((p + 1 : Nat) : Int) from by omega]
      exact str_indexN bs (p + 1) (by omega) w
    have hoc : ∀ o : Obj, (w1.alloc o).cell? ⟨w.heap.size + 1, 1, none⟩ = some (.int .u8 0) := fun o => cell_of_block (o := 1) (block_alloc HO.out) rfl
    have hof : ∀ o : Obj, (w1.alloc o).frozen? ⟨w.heap.size + 1, 1, none⟩ = false := fun o => free_of_block (o := 1) (block_alloc HO.out)
    go_wp2_with fail
    have HP := hidI hpb
    clear hpb
    go_loopw [13, 1] (fun i v w' => ∃ j : Nat, j ≤ 2 ∧ i = .int .i64 (j : Int) ∧ v = .int .i64 ((p + 2 + j : Nat) : Int) ∧ Hid (w'.heap[w.heap.size + 1]? = some (.cells (encOp ⟨at8 bs p, at8 bs (p + 1), 0, 0, 0, 0⟩).toArray 62 (0, 0))) ∧
      Hid (w'.heap[w1.heap.size + 1]? = some (.cells #[.int .u8 (if 0 < j then at8 bs (p + 2) else 0), .int .u8 (if 1 < j then at8 bs (p + 2 + 1) else 0), .int .u8 (if 2 < j then at8 bs (p + 2 + 2) else 0)] 77 (0, 0))) ∧
      Hid (w'.heap[w1.heap.size]? = some (.cells #[.bool true, .int .i64 2, .bool false] 79 (0, 0))) ∧ Hid (w'.heap[w.heap.size]? = some (.cells #[.int .u8 0, .int .u8 0, .int .u8 0, .int .u8 0, .int .u8 0, .int .i64 0] 62 (0, 0))) ∧ Hid (Below w.heap.size w w')) (fun i _ _ => ((2 : Int) - intOf i).toNat)
    case atStart =>
      have hX : ((w1.alloc (.cells #[.bool true, .int .i64 2, .bool false] 79)).setCell ⟨w.heap.size + 1, 1, none⟩ (.int .u8 (at8 bs (p + 1)))).heap.size = w1.heap.size + 1 := by simp [World.setCell]
      have hN := block_new ((w1.alloc (.cells #[.bool true, .int .i64 2, .bool false] 79)).setCell ⟨w.heap.size + 1, 1, none⟩ (.int .u8 (at8 bs (p + 1)))) (.cells #[.int .u8 0, .int .u8 0, .int .u8 0] 77)
      rw [hX] at hN
      have hxb := HBX.out
      refine ⟨0, by omega, rfl, by first | rfl | (congr 1; omega) | congr 1, hidI ?_, hidI ?_, hidI ?_, hidI ?_, hidI ?_⟩
      · exact block_alloc (block_setCell (o := 1) (.int .u8 (at8 bs (p + 1))) (block_alloc HO.out))
      · rw [hN]; rfl
      · exact block_alloc (block_other (block_new w1 _) (by show w1.heap.size ≠ w.heap.size + 1; omega))
      · exact block_alloc (block_other (HR.out _) (by show w.heap.size ≠ w.heap.size + 1; omega))
      · have hb9 := HB1.out.alloc HB1.out.size (.cells #[.bool true, .int .i64 2, .bool false] 79)
        have hb8 := Chg.below (S := fun k => k = w.heap.size + 1) hb9 hb9.size ((Chg.refl (fun k => k = w.heap.size + 1) _).setCell (p := ⟨w.heap.size + 1, 1, none⟩) (.inl rfl) (.int .u8 (at8 bs (p + 1)))) (fun k hk => by omega)
        exact hb8.alloc hb8.size _
    case round =>
      obtain ⟨j, hj, rfl, hv, HOP, HRG, HFM, HRS, HBW⟩ := hrel
      obtain ⟨q, hq⟩ : ∃ q, p + 2 + j = q := ⟨_, rfl⟩
      rw [hq] at hv
      subst hv
      have f1 : wr.cell? ⟨w1.heap.size, 1, none⟩ = some (.int .i64 2) := cell_of_block (o := 1) HFM.out rfl
      have hbw := HB1.out.size
      by_cases hjl : j < 2
      · have hqi : ∀ w, (Instr.index 9 (.string (strOf bs)) (.int .i64 (q : Int))).run Tryz.prog w = .ok (.int .u8 (at8 bs q)) w := fun w => str_indexN bs q (by omega) w
        have hqw : IntKind.i64.wrap ((q : Int) + 1) = q + 1 := IntWalk.i64_in _ (by have := HBS.out; omega)
        have hnb : w.heap.size ≤ w1.heap.size := hbw
        rcases (by omega : j = 0 ∨ j = 1) with rfl | rfl
        · have hrg : wr.heap[w1.heap.size + 1]? = some (.cells #[.int .u8 (0), .int .u8 (0), .int .u8 (0)] 77 (0, 0)) := by simpa using HRG.out
          have g1 := cell_of_block (o := 0) hrg rfl
          have g2 := free_of_block (o := 0) hrg
          have HRG2 := hidI (block_setCell (o := 0) (.int .u8 (at8 bs q)) hrg)
          clear hrg
          go_wp2_with fail
          refine ⟨⟨0 + 1, by omega, by go_num, by congr 1; omega, hidI ?_, hidI ?_, hidI ?_, hidI ?_, hidI ?_⟩, by simp [intOf]⟩
          · rw [Below.heap_setCell _ _ _ _ (by show w.heap.size + 1 ≠ w1.heap.size + 1; have := HBX.out; omega)]; exact HOP.out
          · rw [HRG2.out, ← hq]; rfl
          · rw [Below.heap_setCell _ _ _ _ (by show w1.heap.size ≠ w1.heap.size + 1; omega)]; exact HFM.out
          · rw [Below.heap_setCell _ _ _ _ (by show w.heap.size ≠ w1.heap.size + 1; omega)]; exact HRS.out
          · exact Chg.below (S := fun k => k = w1.heap.size + 1) HBW.out HBW.out.size ((Chg.refl (fun k => k = w1.heap.size + 1) wr).setCell (p := ⟨w1.heap.size + 1, 0, none⟩) (.inl rfl) _) (fun k hk => by omega)
        · have hrg : wr.heap[w1.heap.size + 1]? = some (.cells #[.int .u8 (at8 bs (p + 2)), .int .u8 (0), .int .u8 (0)] 77 (0, 0)) := by simpa using HRG.out
          have g1 := cell_of_block (o := 1) hrg rfl
          have g2 := free_of_block (o := 1) hrg
          have HRG2 := hidI (block_setCell (o := 1) (.int .u8 (at8 bs q)) hrg)
          clear hrg
          go_wp2_with fail
          refine ⟨⟨1 + 1, by omega, by go_num, by congr 1; omega, hidI ?_, hidI ?_, hidI ?_, hidI ?_, hidI ?_⟩, by simp [intOf]⟩
          · rw [Below.heap_setCell _ _ _ _ (by show w.heap.size + 1 ≠ w1.heap.size + 1; have := HBX.out; omega)]; exact HOP.out
          · rw [HRG2.out, ← hq]; rfl
          · rw [Below.heap_setCell _ _ _ _ (by show w1.heap.size ≠ w1.heap.size + 1; omega)]; exact HFM.out
          · rw [Below.heap_setCell _ _ _ _ (by show w.heap.size ≠ w1.heap.size + 1; omega)]; exact HRS.out
          · exact Chg.below (S := fun k => k = w1.heap.size + 1) HBW.out HBW.out.size ((Chg.refl (fun k => k = w1.heap.size + 1) wr).setCell (p := ⟨w1.heap.size + 1, 1, none⟩) (.inl rfl) _) (fun k hk => by omega)
      · obtain rfl : j = 2 := by omega
        have hrg : wr.heap[w1.heap.size + 1]? = some (.cells #[.int .u8 (at8 bs (p + 2)), .int .u8 (at8 bs (p + 2 + 1)), .int .u8 (0)] 77 (0, 0)) := by simpa using HRG.out
        have l0 := cell_of_block (o := 0) hrg rfl
        have l1 := cell_of_block (o := 1) hrg rfl
        have l2 := cell_of_block (o := 2) hrg rfl
        have o2 : wr.cell? ⟨w.heap.size + 1, 2, none⟩ = some (.int .u8 0) := cell_of_block (o := 2) HOP.out rfl
        have o3 : wr.cell? ⟨w.heap.size + 1, 3, none⟩ = some (.int .u8 0) := cell_of_block (o := 3) HOP.out rfl
        have o4 : wr.cell? ⟨w.heap.size + 1, 4, none⟩ = some (.int .u8 0) := cell_of_block (o := 4) HOP.out rfl
        have of : ∀ i, wr.frozen? ⟨w.heap.size + 1, i, none⟩ = false := fun i => free_of_block (o := i) HOP.out
        have hnn : ¬ w1.heap.size + 1 = w.heap.size + 1 := by have := HBX.out; omega
        clear hrg
        go_wp2_with fail
        go_region_held3 (fun w' => w'.cell? ⟨w1.heap.size + 1, 0, none⟩ = some (.int .u8 (at8 bs (p + 2))) ∧ w'.cell? ⟨w1.heap.size + 1, 1, none⟩ = some (.int .u8 (at8 bs (p + 2 + 1))) ∧ w'.cell? ⟨w1.heap.size + 1, 2, none⟩ = some (.int .u8 (0)))
          (refine ⟨?_, ?_, ?_⟩ <;> (simp only [World.cell?_drew]; repeat (refine cell_far ?_ hnn)) <;> assumption) (fail)
        have hset := block_setCell (o := 4) (.int .u8 (0)) (block_setCell (o := 3) (.int .u8 (at8 bs (p + 2 + 1))) (block_setCell (o := 2) (.int .u8 (at8 bs (p + 2))) HOP.out))
        have HOQ : Hid ((((wr.setCell ⟨w.heap.size + 1, 2, none⟩ (.int .u8 (at8 bs (p + 2)))).setCell ⟨w.heap.size + 1, 3, none⟩ (.int .u8 (at8 bs (p + 2 + 1)))).setCell ⟨w.heap.size + 1, 4, none⟩ (.int .u8 (0))).drew.heap[w.heap.size + 1]? = some (.cells (encOp ⟨at8 bs p, at8 bs (p + 1), at8 bs (p + 2), at8 bs (p + 2 + 1), 0, numP bs (p + 4) 0⟩).toArray 62 (0, 0))) := hidI hset
        have HRS2 : Hid ((((wr.setCell ⟨w.heap.size + 1, 2, none⟩ (.int .u8 (at8 bs (p + 2)))).setCell ⟨w.heap.size + 1, 3, none⟩ (.int .u8 (at8 bs (p + 2 + 1)))).setCell ⟨w.heap.size + 1, 4, none⟩ (.int .u8 (0))).drew.heap[w.heap.size]? = some (.cells #[.int .u8 0, .int .u8 0, .int .u8 0, .int .u8 0, .int .u8 0, .int .i64 0] 62 (0, 0))) := hidI (block_other (a := ⟨w.heap.size + 1, 4, none⟩) (u := .int .u8 (0)) (block_other (a := ⟨w.heap.size + 1, 3, none⟩) (u := .int .u8 (at8 bs (p + 2 + 1))) (block_other (a := ⟨w.heap.size + 1, 2, none⟩) (u := .int .u8 (at8 bs (p + 2))) HRS.out (by simp)) (by simp)) (by simp))
        have HBW2 := hidI (Chg.below (S := fun k => k = w.heap.size + 1) HBW.out HBW.out.size (((((Chg.refl (fun k => k = w.heap.size + 1) wr).setCell (p := ⟨w.heap.size + 1, 2, none⟩) (.inl rfl) (.int .u8 (at8 bs (p + 2)))).setCell (p := ⟨w.heap.size + 1, 3, none⟩) (.inl rfl) (.int .u8 (at8 bs (p + 2 + 1)))).setCell (p := ⟨w.heap.size + 1, 4, none⟩) (.inl rfl) (.int .u8 (0))).drew) (fun k hk => by omega))
        clear l0 l1 l2 o2 o3 o4 of hset f1
        generalize (((wr.setCell ⟨w.heap.size + 1, 2, none⟩ (.int .u8 (at8 bs (p + 2)))).setCell ⟨w.heap.size + 1, 3, none⟩ (.int .u8 (at8 bs (p + 2 + 1)))).setCell ⟨w.heap.size + 1, 4, none⟩ (.int .u8 (0))).drew = w5 at HBW2 HOQ HRS2 ⊢
        obtain ⟨wj, rfl⟩ : ∃ x, x = wr := ⟨_, rfl⟩
        have hqe : q = p + 4 := by omega
        subst hqe
        clear hq hj hjl
        go_wp2_with fail
        go_loopw [1] (fun v w' => ∃ t : Nat, t ≤ 0 ∧ v = .int .i64 ((p + 4 + t : Nat) : Int) ∧ Hid (w'.heap[w.heap.size + 1]? = some (.cells (encOp ⟨at8 bs p, at8 bs (p + 1), at8 bs (p + 2), at8 bs (p + 2 + 1), 0, numP bs (p + 4) t⟩).toArray 62 (0, 0))) ∧
          Hid (w'.heap[w.heap.size]? = some (.cells #[.int .u8 0, .int .u8 0, .int .u8 0, .int .u8 0, .int .u8 0, .int .i64 0] 62 (0, 0))) ∧ Hid (Below w.heap.size w w')) (fun v _ => ((p + 4 : Int) - intOf v).toNat)
        case atStart => exact ⟨0, by omega, by simp, HOQ, HRS2, HBW2⟩
        case round =>
          obtain ⟨t, ht, hv, HO5, HR5, HB5⟩ := hrel
          obtain ⟨q, hq⟩ : ∃ q, p + 4 + t = q := ⟨_, rfl⟩
          rw [hq] at hv
          subst hv
          by_cases htl : t < 0
          · exact absurd htl (by omega)
          · obtain rfl : t = 0 := by omega
            have hqe : q = p + 4 := by omega
            subst hqe
            have hge : ¬ (((p + 4 : Nat) : Int) < p + 4) := by omega
            obtain ⟨oo, hoo⟩ : ∃ o : OpD, o = ⟨at8 bs p, at8 bs (p + 1), at8 bs (p + 2), at8 bs (p + 2 + 1), 0, numP bs (p + 4) 0⟩ := ⟨_, rfl⟩
            have hO := HO5.out
            rw [← hoo] at hO
            have HOO := hidI hO
            have HEQ := hidI hoo
            clear hO hoo hq htl
            have HWO := hidI (show wfOp oo from by rw [HEQ.out]; exact ⟨at8_byte _ _, by first | exact at8_byte _ _ | (simp only; omega), by first | exact at8_byte _ _ | (simp only; omega), by first | exact at8_byte _ _ | (simp only; omega), by first | exact at8_byte _ _ | (simp only; omega), numP_rng _ _ _⟩)
            have k0 : wr.cell? ⟨w.heap.size + 1, 0, none⟩ = some (.int .u8 oo.kind) := cell_of_block (o := 0) HOO.out rfl
            have k1 : wr.cell? ⟨w.heap.size + 1, 1, none⟩ = some (.int .u8 oo.cal) := cell_of_block (o := 1) HOO.out rfl
            have k2 : wr.cell? ⟨w.heap.size + 1, 2, none⟩ = some (.int .u8 oo.a) := cell_of_block (o := 2) HOO.out rfl
            have k3 : wr.cell? ⟨w.heap.size + 1, 3, none⟩ = some (.int .u8 oo.b) := cell_of_block (o := 3) HOO.out rfl
            have k4 : wr.cell? ⟨w.heap.size + 1, 4, none⟩ = some (.int .u8 oo.c) := cell_of_block (o := 4) HOO.out rfl
            have k5 : wr.cell? ⟨w.heap.size + 1, 5, none⟩ = some (.int .i64 oo.n) := cell_of_block (o := 5) HOO.out rfl
            have HR6 := HR5
            have hgg : ¬ w.heap.size + 1 = w.heap.size := by omega
            have HB6 := HB5
            have hpb := HBS.out
            cases hck : checkS oo with
            | true =>
              have HCV := hidI (show codeV (checkS oo) = .int .i64 0 from by rw [hck]; rfl)
              have HCK := hidI hck
              clear hck hpb
              go_wp2_with fail
              go_region_held3 (fun w' => w'.cell? ⟨w.heap.size + 1, 0, none⟩ = some (.int .u8 oo.kind) ∧ w'.cell? ⟨w.heap.size + 1, 1, none⟩ = some (.int .u8 oo.cal) ∧ w'.cell? ⟨w.heap.size + 1, 2, none⟩ = some (.int .u8 oo.a) ∧ w'.cell? ⟨w.heap.size + 1, 3, none⟩ = some (.int .u8 oo.b) ∧ w'.cell? ⟨w.heap.size + 1, 4, none⟩ = some (.int .u8 oo.c) ∧ w'.cell? ⟨w.heap.size + 1, 5, none⟩ = some (.int .i64 oo.n))
                (refine ⟨?_, ?_, ?_, ?_, ?_, ?_⟩ <;> ((try simp only [World.cell?_drew]); repeat (refine cell_far ?_ hgg)) <;> assumption)
                (first | (go_at_call 95; refine (rcheck_any _ oo HWO.out).mono ?_; rintro e6 w6 ⟨he6, hb6⟩; rw [HCV.out] at he6; subst he6; obtain ⟨s0, s1, s2, s3, s4, s5, r0, r1, r2, r3, r4, r5, rf⟩ := one_behind HOO.out HR6.out hb6; have HB7 := hidI hb6; clear hb6))
              all_goals (
                have hr6 := blk (w := wr.drew) HB7.out HR6.out
                have hset := block_setCell (o := 5) (.int .i64 oo.n) (block_setCell (o := 4) (.int .u8 oo.c) (block_setCell (o := 3) (.int .u8 oo.b) (block_setCell (o := 2) (.int .u8 oo.a) (block_setCell (o := 1) (.int .u8 oo.cal) (block_setCell (o := 0) (.int .u8 oo.kind) hr6)))))
                have hv : oneV bs p (at8 bs p) ⟨true, 2, false, fl, fM⟩ = .tuple #[.agg (encOp oo).toArray, .int .i64 ((p : Int) + 4), .bool true] := by
                  have e : opAt bs p (at8 bs p) ⟨true, 2, false, fl, fM⟩ = oo := by rw [HEQ.out]; simp [opAt, numP, num8]
                  have e2 : ((p + 1 + needF ⟨true, 2, false, fl, fM⟩ : Nat) : Int) = (p : Int) + 4 := by first | (simp [needF]; done) | (simp [needF]; omega)
                  unfold oneV
                  rw [if_neg (by simp [needF]; omega), e, HCK.out, e2]
                have HSET := hidI hset
                have HVV := hidI hv
                clear hr6 hset hv s0 s1 s2 s3 s4 s5 r0 r1 r2 r3 r4 r5 rf k0 k1 k2 k3 k4 k5
                go_wp2_with fail
                refine bodyPost_ret (v := .tuple #[.agg (encOp oo).toArray, .int .i64 ((p : Int) + 4), .bool true]) (results_one (o := oo) rfl rfl rfl HSET.out) rfl ⟨by rw [HVV.out], ?_⟩
                have hb7 : Below w.heap.size w w6 := (below_drewN HB6.out 1).trans (HB7.out.mono HB6.out.size)
                have hc7 := ((((((Chg.refl (fun k => k = w.heap.size) w6).setCell (p := ⟨w.heap.size, 0, none⟩) (.inl rfl) (.int .u8 oo.kind)).setCell (p := ⟨w.heap.size, 1, none⟩) (.inl rfl) (.int .u8 oo.cal)).setCell (p := ⟨w.heap.size, 2, none⟩) (.inl rfl) (.int .u8 oo.a)).setCell (p := ⟨w.heap.size, 3, none⟩) (.inl rfl) (.int .u8 oo.b)).setCell (p := ⟨w.heap.size, 4, none⟩) (.inl rfl) (.int .u8 oo.c)).setCell (p := ⟨w.heap.size, 5, none⟩) (.inl rfl) (.int .i64 oo.n)
                exact Chg.below (S := fun k => k = w.heap.size) hb7 hb7.size hc7 (fun k hk => by omega))
            | false =>
              have HCV := hidI (show codeV (checkS oo) = .int .i64 1 from by rw [hck]; rfl)
              have HCK := hidI hck
              clear hck hpb
              go_wp2_with fail
              go_region_held3 (fun w' => w'.cell? ⟨w.heap.size + 1, 0, none⟩ = some (.int .u8 oo.kind) ∧ w'.cell? ⟨w.heap.size + 1, 1, none⟩ = some (.int .u8 oo.cal) ∧ w'.cell? ⟨w.heap.size + 1, 2, none⟩ = some (.int .u8 oo.a) ∧ w'.cell? ⟨w.heap.size + 1, 3, none⟩ = some (.int .u8 oo.b) ∧ w'.cell? ⟨w.heap.size + 1, 4, none⟩ = some (.int .u8 oo.c) ∧ w'.cell? ⟨w.heap.size + 1, 5, none⟩ = some (.int .i64 oo.n))
                (refine ⟨?_, ?_, ?_, ?_, ?_, ?_⟩ <;> ((try simp only [World.cell?_drew]); repeat (refine cell_far ?_ hgg)) <;> assumption)
                (first | (go_at_call 95; refine (rcheck_any _ oo HWO.out).mono ?_; rintro e6 w6 ⟨he6, hb6⟩; rw [HCV.out] at he6; subst he6; obtain ⟨s0, s1, s2, s3, s4, s5, r0, r1, r2, r3, r4, r5, rf⟩ := one_behind HOO.out HR6.out hb6; have HB7 := hidI hb6; clear hb6))
              all_goals (
                have hr6 := blk (w := wr.drew) HB7.out HR6.out
                have hset := block_setCell (o := 5) (.int .i64 oo.n) (block_setCell (o := 4) (.int .u8 oo.c) (block_setCell (o := 3) (.int .u8 oo.b) (block_setCell (o := 2) (.int .u8 oo.a) (block_setCell (o := 1) (.int .u8 oo.cal) (block_setCell (o := 0) (.int .u8 oo.kind) hr6)))))
                have hv : oneV bs p (at8 bs p) ⟨true, 2, false, fl, fM⟩ = .tuple #[.agg (encOp oo).toArray, .int .i64 ((p : Int) + 4), .bool false] := by
                  have e : opAt bs p (at8 bs p) ⟨true, 2, false, fl, fM⟩ = oo := by rw [HEQ.out]; simp [opAt, numP, num8]
                  have e2 : ((p + 1 + needF ⟨true, 2, false, fl, fM⟩ : Nat) : Int) = (p : Int) + 4 := by first | (simp [needF]; done) | (simp [needF]; omega)
                  unfold oneV
                  rw [if_neg (by simp [needF]; omega), e, HCK.out, e2]
                have HSET := hidI hset
                have HVV := hidI hv
                clear hr6 hset hv s0 s1 s2 s3 s4 s5 r0 r1 r2 r3 r4 r5 rf k0 k1 k2 k3 k4 k5
                go_wp2_with fail
                refine bodyPost_ret (v := .tuple #[.agg (encOp oo).toArray, .int .i64 ((p : Int) + 4), .bool false]) (results_one (o := oo) rfl rfl rfl HSET.out) rfl ⟨by rw [HVV.out], ?_⟩
                have hb7 : Below w.heap.size w w6 := (below_drewN HB6.out 1).trans (HB7.out.mono HB6.out.size)
                have hc7 := ((((((Chg.refl (fun k => k = w.heap.size) w6).setCell (p := ⟨w.heap.size, 0, none⟩) (.inl rfl) (.int .u8 oo.kind)).setCell (p := ⟨w.heap.size, 1, none⟩) (.inl rfl) (.int .u8 oo.cal)).setCell (p := ⟨w.heap.size, 2, none⟩) (.inl rfl) (.int .u8 oo.a)).setCell (p := ⟨w.heap.size, 3, none⟩) (.inl rfl) (.int .u8 oo.b)).setCell (p := ⟨w.heap.size, 4, none⟩) (.inl rfl) (.int .u8 oo.c)).setCell (p := ⟨w.heap.size, 5, none⟩) (.inl rfl) (.int .i64 oo.n)
                exact Chg.below (S := fun k => k = w.heap.size) hb7 hb7.size hc7 (fun k hk => by omega))

set_option maxHeartbeats 2000000 in
theorem one_021 (w : World) (bs : List UInt8) (p : Nat) (hp : p < bs.length) (hbs : bs.length ≤ 9223372036854775807) (fl fM : Int) (hf : formS (at8 bs p) = some ⟨false, 2, true, fl, fM⟩) :
    Calls Tryz.prog 12 #[.string (strOf bs), .int .i64 (p : Int)] w fun e w' => e = .returned (oneV bs p (at8 bs p) ⟨false, 2, true, fl, fM⟩) ∧ Below w.heap.size w w' := by
  have hix := fun w => str_indexN bs p hp w
  have HF := hidI hf
  have HBS := hidI hbs
  have hsz := strOf_size bs
  have e1 : IntKind.i64.wrap ((bs.length : Int) - p) = bs.length - p := IntWalk.i64_in _ (by omega)
  clear hf hbs
  go_enter Tryz.func12, Tryz.ntmps12
  go_wp2_with fail
  refine (fields_any _ _).mono ?_
  rintro e w1 ⟨rfl, hb1⟩
  rw [HF.out]
  unfold fieldsV encFd
  have hr := blkA hb1 (block_new w (.cells #[.int .u8 0, .int .u8 0, .int .u8 0, .int .u8 0, .int .u8 0, .int .i64 0] 62))
  have hr' : ∀ o : Obj, (w1.alloc o).heap[w.heap.size]? = some (.cells #[.int .u8 0, .int .u8 0, .int .u8 0, .int .u8 0, .int .u8 0, .int .i64 0] 62 (0, 0)) := fun o => block_alloc hr
  have q1 : ∀ o : Obj, (w1.alloc o).there w.heap.size 0 6 := fun o j hj => by
    rw [Nat.zero_add]
    exact ⟨by rw [cell_of_block (hr' o) (Array.getElem?_eq_getElem (by simpa using hj))]; rfl, free_of_block (hr' o)⟩
  have HB1 := hidI (((Below.refl w.heap.size w).alloc (Nat.le_refl _) (.cells #[.int .u8 0, .int .u8 0, .int .u8 0, .int .u8 0, .int .u8 0, .int .i64 0] 62)).alloc (by simp) (.cells #[.int .u8 (at8 bs p), .int .u8 0, .int .u8 0, .int .u8 0, .int .u8 0, .int .i64 0] 62) |>.trans (hb1.mono (by simp; omega)))
  have HR := hidI hr'
  have HO := hidI (blk hb1 (block_new2 w (.cells #[.int .u8 0, .int .u8 0, .int .u8 0, .int .u8 0, .int .u8 0, .int .i64 0] 62) (.cells #[.int .u8 (at8 bs p), .int .u8 0, .int .u8 0, .int .u8 0, .int .u8 0, .int .i64 0] 62)))
  have HBX := hidI (show w.heap.size + 1 < w1.heap.size from by have := hb1.size; simp at this; omega)
  clear hb1 hr
  by_cases hs : bs.length < p + 11
  · have hlt : (bs.length : Int) - p < 11 := by omega
    go_wp2_with (refine wpList_store_mid rfl 62 _ _ rfl w.heap.size 0 (encOp zeroOp).toArray rfl rfl (q1 _) opInfo6 (op_one zeroOp) ?_)
    refine bodyPost_ret (v := noOne) (results_one (o := zeroOp) rfl rfl rfl (setCells_whole (HR.out _) rfl)) rfl ⟨?_, below_setCells (Nat.le_refl _) (Nat.le_refl _) _ _ (HB1.out.alloc HB1.out.size _)⟩
    unfold oneV
    rw [if_pos (by simp [needF]; omega)]
  · have hlt : ¬ ((bs.length : Int) - p < 11) := by omega
    have hcx : ∀ i, i < 11 → ∀ w, (Instr.index 9 (.string (strOf bs)) (.int .i64 ((p + i : Nat) : Int))).run Tryz.prog w = .ok (.int .u8 (at8 bs (p + i))) w := fun i hi w => str_indexN bs (p + i) (by omega) w
    have HCX := hidI hcx
    have hpb := HBS.out
    go_wp2_with fail
    have HP := hidI hpb
    clear hpb
    go_loopw [13, 1] (fun i v w' => ∃ j : Nat, j ≤ 2 ∧ i = .int .i64 (j : Int) ∧ v = .int .i64 ((p + 1 + j : Nat) : Int) ∧ Hid (w'.heap[w.heap.size + 1]? = some (.cells (encOp ⟨at8 bs p, 0, 0, 0, 0, 0⟩).toArray 62 (0, 0))) ∧
      Hid (w'.heap[w1.heap.size + 1]? = some (.cells #[.int .u8 (if 0 < j then at8 bs (p + 1) else 0), .int .u8 (if 1 < j then at8 bs (p + 1 + 1) else 0), .int .u8 (if 2 < j then at8 bs (p + 1 + 2) else 0)] 77 (0, 0))) ∧
      Hid (w'.heap[w1.heap.size]? = some (.cells #[.bool false, .int .i64 2, .bool true] 79 (0, 0))) ∧ Hid (w'.heap[w.heap.size]? = some (.cells #[.int .u8 0, .int .u8 0, .int .u8 0, .int .u8 0, .int .u8 0, .int .i64 0] 62 (0, 0))) ∧ Hid (Below w.heap.size w w')) (fun i _ _ => ((2 : Int) - intOf i).toNat)
    case atStart =>
      refine ⟨0, by omega, rfl, by first | rfl | (congr 1; omega) | congr 1, hidI ?_, hidI ?_, hidI ?_, hidI ?_, hidI ?_⟩
      · exact block_alloc (block_alloc HO.out)
      · rw [block_new2]; rfl
      · exact block_alloc (block_new w1 _)
      · exact block_alloc (HR.out _)
      · exact (HB1.out.alloc HB1.out.size _).alloc (by have := HB1.out.size; simp; omega) _
    case round =>
      obtain ⟨j, hj, rfl, hv, HOP, HRG, HFM, HRS, HBW⟩ := hrel
      obtain ⟨q, hq⟩ : ∃ q, p + 1 + j = q := ⟨_, rfl⟩
      rw [hq] at hv
      subst hv
      have f1 : wr.cell? ⟨w1.heap.size, 1, none⟩ = some (.int .i64 2) := cell_of_block (o := 1) HFM.out rfl
      have hbw := HB1.out.size
      by_cases hjl : j < 2
      · have hqi : ∀ w, (Instr.index 9 (.string (strOf bs)) (.int .i64 (q : Int))).run Tryz.prog w = .ok (.int .u8 (at8 bs q)) w := fun w => str_indexN bs q (by omega) w
        have hqw : IntKind.i64.wrap ((q : Int) + 1) = q + 1 := IntWalk.i64_in _ (by have := HBS.out; omega)
        have hnb : w.heap.size ≤ w1.heap.size := hbw
        rcases (by omega : j = 0 ∨ j = 1) with rfl | rfl
        · have hrg : wr.heap[w1.heap.size + 1]? = some (.cells #[.int .u8 (0), .int .u8 (0), .int .u8 (0)] 77 (0, 0)) := by simpa using HRG.out
          have g1 := cell_of_block (o := 0) hrg rfl
          have g2 := free_of_block (o := 0) hrg
          have HRG2 := hidI (block_setCell (o := 0) (.int .u8 (at8 bs q)) hrg)
          clear hrg
          go_wp2_with fail
          refine ⟨⟨0 + 1, by omega, by go_num, by congr 1; omega, hidI ?_, hidI ?_, hidI ?_, hidI ?_, hidI ?_⟩, by simp [intOf]⟩
          · rw [Below.heap_setCell _ _ _ _ (by show w.heap.size + 1 ≠ w1.heap.size + 1; have := HBX.out; omega)]; exact HOP.out
          · rw [HRG2.out, ← hq]; rfl
          · rw [Below.heap_setCell _ _ _ _ (by show w1.heap.size ≠ w1.heap.size + 1; omega)]; exact HFM.out
          · rw [Below.heap_setCell _ _ _ _ (by show w.heap.size ≠ w1.heap.size + 1; omega)]; exact HRS.out
          · exact Chg.below (S := fun k => k = w1.heap.size + 1) HBW.out HBW.out.size ((Chg.refl (fun k => k = w1.heap.size + 1) wr).setCell (p := ⟨w1.heap.size + 1, 0, none⟩) (.inl rfl) _) (fun k hk => by omega)
        · have hrg : wr.heap[w1.heap.size + 1]? = some (.cells #[.int .u8 (at8 bs (p + 1)), .int .u8 (0), .int .u8 (0)] 77 (0, 0)) := by simpa using HRG.out
          have g1 := cell_of_block (o := 1) hrg rfl
          have g2 := free_of_block (o := 1) hrg
          have HRG2 := hidI (block_setCell (o := 1) (.int .u8 (at8 bs q)) hrg)
          clear hrg
          go_wp2_with fail
          refine ⟨⟨1 + 1, by omega, by go_num, by congr 1; omega, hidI ?_, hidI ?_, hidI ?_, hidI ?_, hidI ?_⟩, by simp [intOf]⟩
          · rw [Below.heap_setCell _ _ _ _ (by show w.heap.size + 1 ≠ w1.heap.size + 1; have := HBX.out; omega)]; exact HOP.out
          · rw [HRG2.out, ← hq]; rfl
          · rw [Below.heap_setCell _ _ _ _ (by show w1.heap.size ≠ w1.heap.size + 1; omega)]; exact HFM.out
          · rw [Below.heap_setCell _ _ _ _ (by show w.heap.size ≠ w1.heap.size + 1; omega)]; exact HRS.out
          · exact Chg.below (S := fun k => k = w1.heap.size + 1) HBW.out HBW.out.size ((Chg.refl (fun k => k = w1.heap.size + 1) wr).setCell (p := ⟨w1.heap.size + 1, 1, none⟩) (.inl rfl) _) (fun k hk => by omega)
      · obtain rfl : j = 2 := by omega
        have hrg : wr.heap[w1.heap.size + 1]? = some (.cells #[.int .u8 (at8 bs (p + 1)), .int .u8 (at8 bs (p + 1 + 1)), .int .u8 (0)] 77 (0, 0)) := by simpa using HRG.out
        have l0 := cell_of_block (o := 0) hrg rfl
        have l1 := cell_of_block (o := 1) hrg rfl
        have l2 := cell_of_block (o := 2) hrg rfl
        have o2 : wr.cell? ⟨w.heap.size + 1, 2, none⟩ = some (.int .u8 0) := cell_of_block (o := 2) HOP.out rfl
        have o3 : wr.cell? ⟨w.heap.size + 1, 3, none⟩ = some (.int .u8 0) := cell_of_block (o := 3) HOP.out rfl
        have o4 : wr.cell? ⟨w.heap.size + 1, 4, none⟩ = some (.int .u8 0) := cell_of_block (o := 4) HOP.out rfl
        have of : ∀ i, wr.frozen? ⟨w.heap.size + 1, i, none⟩ = false := fun i => free_of_block (o := i) HOP.out
        have hnn : ¬ w1.heap.size + 1 = w.heap.size + 1 := by have := HBX.out; omega
        clear hrg
        go_wp2_with fail
        go_region_held3 (fun w' => w'.cell? ⟨w1.heap.size + 1, 0, none⟩ = some (.int .u8 (at8 bs (p + 1))) ∧ w'.cell? ⟨w1.heap.size + 1, 1, none⟩ = some (.int .u8 (at8 bs (p + 1 + 1))) ∧ w'.cell? ⟨w1.heap.size + 1, 2, none⟩ = some (.int .u8 (0)))
          (refine ⟨?_, ?_, ?_⟩ <;> (simp only [World.cell?_drew]; repeat (refine cell_far ?_ hnn)) <;> assumption) (fail)
        have hset := block_setCell (o := 4) (.int .u8 (0)) (block_setCell (o := 3) (.int .u8 (at8 bs (p + 1 + 1))) (block_setCell (o := 2) (.int .u8 (at8 bs (p + 1))) HOP.out))
        have HOQ : Hid ((((wr.setCell ⟨w.heap.size + 1, 2, none⟩ (.int .u8 (at8 bs (p + 1)))).setCell ⟨w.heap.size + 1, 3, none⟩ (.int .u8 (at8 bs (p + 1 + 1)))).setCell ⟨w.heap.size + 1, 4, none⟩ (.int .u8 (0))).drew.heap[w.heap.size + 1]? = some (.cells (encOp ⟨at8 bs p, 0, at8 bs (p + 1), at8 bs (p + 1 + 1), 0, numP bs (p + 3) 0⟩).toArray 62 (0, 0))) := hidI hset
        have HRS2 : Hid ((((wr.setCell ⟨w.heap.size + 1, 2, none⟩ (.int .u8 (at8 bs (p + 1)))).setCell ⟨w.heap.size + 1, 3, none⟩ (.int .u8 (at8 bs (p + 1 + 1)))).setCell ⟨w.heap.size + 1, 4, none⟩ (.int .u8 (0))).drew.heap[w.heap.size]? = some (.cells #[.int .u8 0, .int .u8 0, .int .u8 0, .int .u8 0, .int .u8 0, .int .i64 0] 62 (0, 0))) := hidI (block_other (a := ⟨w.heap.size + 1, 4, none⟩) (u := .int .u8 (0)) (block_other (a := ⟨w.heap.size + 1, 3, none⟩) (u := .int .u8 (at8 bs (p + 1 + 1))) (block_other (a := ⟨w.heap.size + 1, 2, none⟩) (u := .int .u8 (at8 bs (p + 1))) HRS.out (by simp)) (by simp)) (by simp))
        have HBW2 := hidI (Chg.below (S := fun k => k = w.heap.size + 1) HBW.out HBW.out.size (((((Chg.refl (fun k => k = w.heap.size + 1) wr).setCell (p := ⟨w.heap.size + 1, 2, none⟩) (.inl rfl) (.int .u8 (at8 bs (p + 1)))).setCell (p := ⟨w.heap.size + 1, 3, none⟩) (.inl rfl) (.int .u8 (at8 bs (p + 1 + 1)))).setCell (p := ⟨w.heap.size + 1, 4, none⟩) (.inl rfl) (.int .u8 (0))).drew) (fun k hk => by omega))
        clear l0 l1 l2 o2 o3 o4 of hset f1
        generalize (((wr.setCell ⟨w.heap.size + 1, 2, none⟩ (.int .u8 (at8 bs (p + 1)))).setCell ⟨w.heap.size + 1, 3, none⟩ (.int .u8 (at8 bs (p + 1 + 1)))).setCell ⟨w.heap.size + 1, 4, none⟩ (.int .u8 (0))).drew = w5 at HBW2 HOQ HRS2 ⊢
        obtain ⟨wj, rfl⟩ : ∃ x, x = wr := ⟨_, rfl⟩
        have hqe : q = p + 3 := by omega
        subst hqe
        clear hq hj hjl
        go_wp2_with fail
        go_loopw [1] (fun v w' => ∃ t : Nat, t ≤ 8 ∧ v = .int .i64 ((p + 3 + t : Nat) : Int) ∧ Hid (w'.heap[w.heap.size + 1]? = some (.cells (encOp ⟨at8 bs p, 0, at8 bs (p + 1), at8 bs (p + 1 + 1), 0, numP bs (p + 3) t⟩).toArray 62 (0, 0))) ∧
          Hid (w'.heap[w.heap.size]? = some (.cells #[.int .u8 0, .int .u8 0, .int .u8 0, .int .u8 0, .int .u8 0, .int .i64 0] 62 (0, 0))) ∧ Hid (Below w.heap.size w w')) (fun v _ => ((p + 11 : Int) - intOf v).toNat)
        case atStart => exact ⟨0, by omega, by simp, HOQ, HRS2, HBW2⟩
        case round =>
          obtain ⟨t, ht, hv, HO5, HR5, HB5⟩ := hrel
          obtain ⟨q, hq⟩ : ∃ q, p + 3 + t = q := ⟨_, rfl⟩
          rw [hq] at hv
          subst hv
          by_cases htl : t < 8
          · have hqi : ∀ w, (Instr.index 9 (.string (strOf bs)) (.int .i64 (q : Int))).run Tryz.prog w = .ok (.int .u8 (at8 bs q)) w := fun w => str_indexN bs q (by omega) w
            have hqw : IntKind.i64.wrap ((q : Int) + 1) = q + 1 := IntWalk.i64_in _ (by have := HBS.out; omega)
            have hqlt : (q : Int) < p + 11 := by omega
            have n5 : wr.cell? ⟨w.heap.size + 1, 5, none⟩ = some (.int .i64 (numP bs (p + 3) t)) := cell_of_block (o := 5) HO5.out rfl
            have nf : wr.frozen? ⟨w.heap.size + 1, 5, none⟩ = false := free_of_block (o := 5) HO5.out
            have hb0 : 0 ≤ at8 bs q ∧ at8 bs q < 256 := at8_byte bs q
            have HV := hidI (shl_or_u (numP bs (p + 3) t) (at8 bs q) hb0.1 hb0.2)
            have HNX := hidI (show wr64 (numP bs (p + 3) t * 256 + at8 bs q) = numP bs (p + 3) (t + 1) from by rw [← hq]; rfl)
            clear hb0
            go_wp2_with fail
            go_region
            rw [HV.out, HNX.out]
            have HS5 := hidI (block_setCell (o := 5) (.int .i64 (numP bs (p + 3) (t + 1))) HO5.out)
            clear n5 nf hqi hqlt
            go_wp2_with fail
            refine ⟨⟨t + 1, by omega, by congr 1; omega, hidI HS5.out, hidI ?_, hidI ?_⟩, by simp [intOf]; omega⟩
            · exact block_other (a := ⟨w.heap.size + 1, 5, none⟩) HR5.out (by simp)
            · exact Chg.below (S := fun k => k = w.heap.size + 1) HB5.out HB5.out.size (((Chg.refl (fun k => k = w.heap.size + 1) wr).setCell (p := ⟨w.heap.size + 1, 5, none⟩) (.inl rfl) _).drew) (fun k hk => by omega)
          · obtain rfl : t = 8 := by omega
            have hqe : q = p + 11 := by omega
            subst hqe
            have hge : ¬ (((p + 11 : Nat) : Int) < p + 11) := by omega
            obtain ⟨oo, hoo⟩ : ∃ o : OpD, o = ⟨at8 bs p, 0, at8 bs (p + 1), at8 bs (p + 1 + 1), 0, numP bs (p + 3) 8⟩ := ⟨_, rfl⟩
            have hO := HO5.out
            rw [← hoo] at hO
            have HOO := hidI hO
            have HEQ := hidI hoo
            clear hO hoo hq htl
            have HWO := hidI (show wfOp oo from by rw [HEQ.out]; exact ⟨at8_byte _ _, by first | exact at8_byte _ _ | (simp only; omega), by first | exact at8_byte _ _ | (simp only; omega), by first | exact at8_byte _ _ | (simp only; omega), by first | exact at8_byte _ _ | (simp only; omega), numP_rng _ _ _⟩)
            have k0 : wr.cell? ⟨w.heap.size + 1, 0, none⟩ = some (.int .u8 oo.kind) := cell_of_block (o := 0) HOO.out rfl
            have k1 : wr.cell? ⟨w.heap.size + 1, 1, none⟩ = some (.int .u8 oo.cal) := cell_of_block (o := 1) HOO.out rfl
            have k2 : wr.cell? ⟨w.heap.size + 1, 2, none⟩ = some (.int .u8 oo.a) := cell_of_block (o := 2) HOO.out rfl
            have k3 : wr.cell? ⟨w.heap.size + 1, 3, none⟩ = some (.int .u8 oo.b) := cell_of_block (o := 3) HOO.out rfl
            have k4 : wr.cell? ⟨w.heap.size + 1, 4, none⟩ = some (.int .u8 oo.c) := cell_of_block (o := 4) HOO.out rfl
            have k5 : wr.cell? ⟨w.heap.size + 1, 5, none⟩ = some (.int .i64 oo.n) := cell_of_block (o := 5) HOO.out rfl
            have HR6 := HR5
            have hgg : ¬ w.heap.size + 1 = w.heap.size := by omega
            have HB6 := HB5
            have hpb := HBS.out
            cases hck : checkS oo with
            | true =>
              have HCV := hidI (show codeV (checkS oo) = .int .i64 0 from by rw [hck]; rfl)
              have HCK := hidI hck
              clear hck hpb
              go_wp2_with fail
              go_region_held3 (fun w' => w'.cell? ⟨w.heap.size + 1, 0, none⟩ = some (.int .u8 oo.kind) ∧ w'.cell? ⟨w.heap.size + 1, 1, none⟩ = some (.int .u8 oo.cal) ∧ w'.cell? ⟨w.heap.size + 1, 2, none⟩ = some (.int .u8 oo.a) ∧ w'.cell? ⟨w.heap.size + 1, 3, none⟩ = some (.int .u8 oo.b) ∧ w'.cell? ⟨w.heap.size + 1, 4, none⟩ = some (.int .u8 oo.c) ∧ w'.cell? ⟨w.heap.size + 1, 5, none⟩ = some (.int .i64 oo.n))
                (refine ⟨?_, ?_, ?_, ?_, ?_, ?_⟩ <;> ((try simp only [World.cell?_drew]); repeat (refine cell_far ?_ hgg)) <;> assumption)
                (first | (go_at_call 95; refine (rcheck_any _ oo HWO.out).mono ?_; rintro e6 w6 ⟨he6, hb6⟩; rw [HCV.out] at he6; subst he6; obtain ⟨s0, s1, s2, s3, s4, s5, r0, r1, r2, r3, r4, r5, rf⟩ := one_behind HOO.out HR6.out hb6; have HB7 := hidI hb6; clear hb6))
              all_goals (
                have hr6 := blk (w := wr.drew) HB7.out HR6.out
                have hset := block_setCell (o := 5) (.int .i64 oo.n) (block_setCell (o := 4) (.int .u8 oo.c) (block_setCell (o := 3) (.int .u8 oo.b) (block_setCell (o := 2) (.int .u8 oo.a) (block_setCell (o := 1) (.int .u8 oo.cal) (block_setCell (o := 0) (.int .u8 oo.kind) hr6)))))
                have hv : oneV bs p (at8 bs p) ⟨false, 2, true, fl, fM⟩ = .tuple #[.agg (encOp oo).toArray, .int .i64 ((p : Int) + 11), .bool true] := by
                  have e : opAt bs p (at8 bs p) ⟨false, 2, true, fl, fM⟩ = oo := by rw [HEQ.out]; simp [opAt, numP, num8]
                  have e2 : ((p + 1 + needF ⟨false, 2, true, fl, fM⟩ : Nat) : Int) = (p : Int) + 11 := by first | (simp [needF]; done) | (simp [needF]; omega)
                  unfold oneV
                  rw [if_neg (by simp [needF]; omega), e, HCK.out, e2]
                have HSET := hidI hset
                have HVV := hidI hv
                clear hr6 hset hv s0 s1 s2 s3 s4 s5 r0 r1 r2 r3 r4 r5 rf k0 k1 k2 k3 k4 k5
                go_wp2_with fail
                refine bodyPost_ret (v := .tuple #[.agg (encOp oo).toArray, .int .i64 ((p : Int) + 11), .bool true]) (results_one (o := oo) rfl rfl rfl HSET.out) rfl ⟨by rw [HVV.out], ?_⟩
                have hb7 : Below w.heap.size w w6 := (below_drewN HB6.out 1).trans (HB7.out.mono HB6.out.size)
                have hc7 := ((((((Chg.refl (fun k => k = w.heap.size) w6).setCell (p := ⟨w.heap.size, 0, none⟩) (.inl rfl) (.int .u8 oo.kind)).setCell (p := ⟨w.heap.size, 1, none⟩) (.inl rfl) (.int .u8 oo.cal)).setCell (p := ⟨w.heap.size, 2, none⟩) (.inl rfl) (.int .u8 oo.a)).setCell (p := ⟨w.heap.size, 3, none⟩) (.inl rfl) (.int .u8 oo.b)).setCell (p := ⟨w.heap.size, 4, none⟩) (.inl rfl) (.int .u8 oo.c)).setCell (p := ⟨w.heap.size, 5, none⟩) (.inl rfl) (.int .i64 oo.n)
                exact Chg.below (S := fun k => k = w.heap.size) hb7 hb7.size hc7 (fun k hk => by omega))
            | false =>
              have HCV := hidI (show codeV (checkS oo) = .int .i64 1 from by rw [hck]; rfl)
              have HCK := hidI hck
              clear hck hpb
              go_wp2_with fail
              go_region_held3 (fun w' => w'.cell? ⟨w.heap.size + 1, 0, none⟩ = some (.int .u8 oo.kind) ∧ w'.cell? ⟨w.heap.size + 1, 1, none⟩ = some (.int .u8 oo.cal) ∧ w'.cell? ⟨w.heap.size + 1, 2, none⟩ = some (.int .u8 oo.a) ∧ w'.cell? ⟨w.heap.size + 1, 3, none⟩ = some (.int .u8 oo.b) ∧ w'.cell? ⟨w.heap.size + 1, 4, none⟩ = some (.int .u8 oo.c) ∧ w'.cell? ⟨w.heap.size + 1, 5, none⟩ = some (.int .i64 oo.n))
                (refine ⟨?_, ?_, ?_, ?_, ?_, ?_⟩ <;> ((try simp only [World.cell?_drew]); repeat (refine cell_far ?_ hgg)) <;> assumption)
                (first | (go_at_call 95; refine (rcheck_any _ oo HWO.out).mono ?_; rintro e6 w6 ⟨he6, hb6⟩; rw [HCV.out] at he6; subst he6; obtain ⟨s0, s1, s2, s3, s4, s5, r0, r1, r2, r3, r4, r5, rf⟩ := one_behind HOO.out HR6.out hb6; have HB7 := hidI hb6; clear hb6))
              all_goals (
                have hr6 := blk (w := wr.drew) HB7.out HR6.out
                have hset := block_setCell (o := 5) (.int .i64 oo.n) (block_setCell (o := 4) (.int .u8 oo.c) (block_setCell (o := 3) (.int .u8 oo.b) (block_setCell (o := 2) (.int .u8 oo.a) (block_setCell (o := 1) (.int .u8 oo.cal) (block_setCell (o := 0) (.int .u8 oo.kind) hr6)))))
                have hv : oneV bs p (at8 bs p) ⟨false, 2, true, fl, fM⟩ = .tuple #[.agg (encOp oo).toArray, .int .i64 ((p : Int) + 11), .bool false] := by
                  have e : opAt bs p (at8 bs p) ⟨false, 2, true, fl, fM⟩ = oo := by rw [HEQ.out]; simp [opAt, numP, num8]
                  have e2 : ((p + 1 + needF ⟨false, 2, true, fl, fM⟩ : Nat) : Int) = (p : Int) + 11 := by first | (simp [needF]; done) | (simp [needF]; omega)
                  unfold oneV
                  rw [if_neg (by simp [needF]; omega), e, HCK.out, e2]
                have HSET := hidI hset
                have HVV := hidI hv
                clear hr6 hset hv s0 s1 s2 s3 s4 s5 r0 r1 r2 r3 r4 r5 rf k0 k1 k2 k3 k4 k5
                go_wp2_with fail
                refine bodyPost_ret (v := .tuple #[.agg (encOp oo).toArray, .int .i64 ((p : Int) + 11), .bool false]) (results_one (o := oo) rfl rfl rfl HSET.out) rfl ⟨by rw [HVV.out], ?_⟩
                have hb7 : Below w.heap.size w w6 := (below_drewN HB6.out 1).trans (HB7.out.mono HB6.out.size)
                have hc7 := ((((((Chg.refl (fun k => k = w.heap.size) w6).setCell (p := ⟨w.heap.size, 0, none⟩) (.inl rfl) (.int .u8 oo.kind)).setCell (p := ⟨w.heap.size, 1, none⟩) (.inl rfl) (.int .u8 oo.cal)).setCell (p := ⟨w.heap.size, 2, none⟩) (.inl rfl) (.int .u8 oo.a)).setCell (p := ⟨w.heap.size, 3, none⟩) (.inl rfl) (.int .u8 oo.b)).setCell (p := ⟨w.heap.size, 4, none⟩) (.inl rfl) (.int .u8 oo.c)).setCell (p := ⟨w.heap.size, 5, none⟩) (.inl rfl) (.int .i64 oo.n)
                exact Chg.below (S := fun k => k = w.heap.size) hb7 hb7.size hc7 (fun k hk => by omega))

set_option maxHeartbeats 2000000 in
theorem one_001 (w : World) (bs : List UInt8) (p : Nat) (hp : p < bs.length) (hbs : bs.length ≤ 9223372036854775807) (fl fM : Int) (hf : formS (at8 bs p) = some ⟨false, 0, true, fl, fM⟩) :
    Calls Tryz.prog 12 #[.string (strOf bs), .int .i64 (p : Int)] w fun e w' => e = .returned (oneV bs p (at8 bs p) ⟨false, 0, true, fl, fM⟩) ∧ Below w.heap.size w w' := by
  have hix := fun w => str_indexN bs p hp w
  have HF := hidI hf
  have HBS := hidI hbs
  have hsz := strOf_size bs
  have e1 : IntKind.i64.wrap ((bs.length : Int) - p) = bs.length - p := IntWalk.i64_in _ (by omega)
  clear hf hbs
  go_enter Tryz.func12, Tryz.ntmps12
  go_wp2_with fail
  refine (fields_any _ _).mono ?_
  rintro e w1 ⟨rfl, hb1⟩
  rw [HF.out]
  unfold fieldsV encFd
  have hr := blkA hb1 (block_new w (.cells #[.int .u8 0, .int .u8 0, .int .u8 0, .int .u8 0, .int .u8 0, .int .i64 0] 62))
  have hr' : ∀ o : Obj, (w1.alloc o).heap[w.heap.size]? = some (.cells #[.int .u8 0, .int .u8 0, .int .u8 0, .int .u8 0, .int .u8 0, .int .i64 0] 62 (0, 0)) := fun o => block_alloc hr
  have q1 : ∀ o : Obj, (w1.alloc o).there w.heap.size 0 6 := fun o j hj => by
    rw [Nat.zero_add]
    exact ⟨by rw [cell_of_block (hr' o) (Array.getElem?_eq_getElem (by simpa using hj))]; rfl, free_of_block (hr' o)⟩
  have HB1 := hidI (((Below.refl w.heap.size w).alloc (Nat.le_refl _) (.cells #[.int .u8 0, .int .u8 0, .int .u8 0, .int .u8 0, .int .u8 0, .int .i64 0] 62)).alloc (by simp) (.cells #[.int .u8 (at8 bs p), .int .u8 0, .int .u8 0, .int .u8 0, .int .u8 0, .int .i64 0] 62) |>.trans (hb1.mono (by simp; omega)))
  have HR := hidI hr'
  have HO := hidI (blk hb1 (block_new2 w (.cells #[.int .u8 0, .int .u8 0, .int .u8 0, .int .u8 0, .int .u8 0, .int .i64 0] 62) (.cells #[.int .u8 (at8 bs p), .int .u8 0, .int .u8 0, .int .u8 0, .int .u8 0, .int .i64 0] 62)))
  have HBX := hidI (show w.heap.size + 1 < w1.heap.size from by have := hb1.size; simp at this; omega)
  clear hb1 hr
  by_cases hs : bs.length < p + 9
  · have hlt : (bs.length : Int) - p < 9 := by omega
    go_wp2_with (refine wpList_store_mid rfl 62 _ _ rfl w.heap.size 0 (encOp zeroOp).toArray rfl rfl (q1 _) opInfo6 (op_one zeroOp) ?_)
    refine bodyPost_ret (v := noOne) (results_one (o := zeroOp) rfl rfl rfl (setCells_whole (HR.out _) rfl)) rfl ⟨?_, below_setCells (Nat.le_refl _) (Nat.le_refl _) _ _ (HB1.out.alloc HB1.out.size _)⟩
    unfold oneV
    rw [if_pos (by simp [needF]; omega)]
  · have hlt : ¬ ((bs.length : Int) - p < 9) := by omega
    have hcx : ∀ i, i < 9 → ∀ w, (Instr.index 9 (.string (strOf bs)) (.int .i64 ((p + i : Nat) : Int))).run Tryz.prog w = .ok (.int .u8 (at8 bs (p + i))) w := fun i hi w => str_indexN bs (p + i) (by omega) w
    have HCX := hidI hcx
    have hpb := HBS.out
    go_wp2_with fail
    have HP := hidI hpb
    clear hpb
    go_loopw [13, 1] (fun i v w' => ∃ j : Nat, j ≤ 0 ∧ i = .int .i64 (j : Int) ∧ v = .int .i64 ((p + 1 + j : Nat) : Int) ∧ Hid (w'.heap[w.heap.size + 1]? = some (.cells (encOp ⟨at8 bs p, 0, 0, 0, 0, 0⟩).toArray 62 (0, 0))) ∧
      Hid (w'.heap[w1.heap.size + 1]? = some (.cells #[.int .u8 (if 0 < j then at8 bs (p + 1) else 0), .int .u8 (if 1 < j then at8 bs (p + 1 + 1) else 0), .int .u8 (if 2 < j then at8 bs (p + 1 + 2) else 0)] 77 (0, 0))) ∧
      Hid (w'.heap[w1.heap.size]? = some (.cells #[.bool false, .int .i64 0, .bool true] 79 (0, 0))) ∧ Hid (w'.heap[w.heap.size]? = some (.cells #[.int .u8 0, .int .u8 0, .int .u8 0, .int .u8 0, .int .u8 0, .int .i64 0] 62 (0, 0))) ∧ Hid (Below w.heap.size w w')) (fun i _ _ => ((0 : Int) - intOf i).toNat)
    case atStart =>
      refine ⟨0, by omega, rfl, by first | rfl | (congr 1; omega) | congr 1, hidI ?_, hidI ?_, hidI ?_, hidI ?_, hidI ?_⟩
      · exact block_alloc (block_alloc HO.out)
      · rw [block_new2]; rfl
      · exact block_alloc (block_new w1 _)
      · exact block_alloc (HR.out _)
      · exact (HB1.out.alloc HB1.out.size _).alloc (by have := HB1.out.size; simp; omega) _
    case round =>
      obtain ⟨j, hj, rfl, hv, HOP, HRG, HFM, HRS, HBW⟩ := hrel
      obtain ⟨q, hq⟩ : ∃ q, p + 1 + j = q := ⟨_, rfl⟩
      rw [hq] at hv
      subst hv
      have f1 : wr.cell? ⟨w1.heap.size, 1, none⟩ = some (.int .i64 0) := cell_of_block (o := 1) HFM.out rfl
      have hbw := HB1.out.size
      by_cases hjl : j < 0
      · have hqi : ∀ w, (Instr.index 9 (.string (strOf bs)) (.int .i64 (q : Int))).run Tryz.prog w = .ok (.int .u8 (at8 bs q)) w := fun w => str_indexN bs q (by omega) w
        have hqw : IntKind.i64.wrap ((q : Int) + 1) = q + 1 := IntWalk.i64_in _ (by have := HBS.out; omega)
        have hnb : w.heap.size ≤ w1.heap.size := hbw
        exact absurd hjl (by omega)
      · obtain rfl : j = 0 := by omega
        have hrg : wr.heap[w1.heap.size + 1]? = some (.cells #[.int .u8 (0), .int .u8 (0), .int .u8 (0)] 77 (0, 0)) := by simpa using HRG.out
        have l0 := cell_of_block (o := 0) hrg rfl
        have l1 := cell_of_block (o := 1) hrg rfl
        have l2 := cell_of_block (o := 2) hrg rfl
        have o2 : wr.cell? ⟨w.heap.size + 1, 2, none⟩ = some (.int .u8 0) := cell_of_block (o := 2) HOP.out rfl
        have o3 : wr.cell? ⟨w.heap.size + 1, 3, none⟩ = some (.int .u8 0) := cell_of_block (o := 3) HOP.out rfl
        have o4 : wr.cell? ⟨w.heap.size + 1, 4, none⟩ = some (.int .u8 0) := cell_of_block (o := 4) HOP.out rfl
        have of : ∀ i, wr.frozen? ⟨w.heap.size + 1, i, none⟩ = false := fun i => free_of_block (o := i) HOP.out
        have hnn : ¬ w1.heap.size + 1 = w.heap.size + 1 := by have := HBX.out; omega
        clear hrg
        go_wp2_with fail
        go_region_held3 (fun w' => w'.cell? ⟨w1.heap.size + 1, 0, none⟩ = some (.int .u8 (0)) ∧ w'.cell? ⟨w1.heap.size + 1, 1, none⟩ = some (.int .u8 (0)) ∧ w'.cell? ⟨w1.heap.size + 1, 2, none⟩ = some (.int .u8 (0)))
          (refine ⟨?_, ?_, ?_⟩ <;> (simp only [World.cell?_drew]; repeat (refine cell_far ?_ hnn)) <;> assumption) (fail)
        have hset := block_setCell (o := 4) (.int .u8 (0)) (block_setCell (o := 3) (.int .u8 (0)) (block_setCell (o := 2) (.int .u8 (0)) HOP.out))
        have HOQ : Hid ((((wr.setCell ⟨w.heap.size + 1, 2, none⟩ (.int .u8 (0))).setCell ⟨w.heap.size + 1, 3, none⟩ (.int .u8 (0))).setCell ⟨w.heap.size + 1, 4, none⟩ (.int .u8 (0))).drew.heap[w.heap.size + 1]? = some (.cells (encOp ⟨at8 bs p, 0, 0, 0, 0, numP bs (p + 1) 0⟩).toArray 62 (0, 0))) := hidI hset
        have HRS2 : Hid ((((wr.setCell ⟨w.heap.size + 1, 2, none⟩ (.int .u8 (0))).setCell ⟨w.heap.size + 1, 3, none⟩ (.int .u8 (0))).setCell ⟨w.heap.size + 1, 4, none⟩ (.int .u8 (0))).drew.heap[w.heap.size]? = some (.cells #[.int .u8 0, .int .u8 0, .int .u8 0, .int .u8 0, .int .u8 0, .int .i64 0] 62 (0, 0))) := hidI (block_other (a := ⟨w.heap.size + 1, 4, none⟩) (u := .int .u8 (0)) (block_other (a := ⟨w.heap.size + 1, 3, none⟩) (u := .int .u8 (0)) (block_other (a := ⟨w.heap.size + 1, 2, none⟩) (u := .int .u8 (0)) HRS.out (by simp)) (by simp)) (by simp))
        have HBW2 := hidI (Chg.below (S := fun k => k = w.heap.size + 1) HBW.out HBW.out.size (((((Chg.refl (fun k => k = w.heap.size + 1) wr).setCell (p := ⟨w.heap.size + 1, 2, none⟩) (.inl rfl) (.int .u8 (0))).setCell (p := ⟨w.heap.size + 1, 3, none⟩) (.inl rfl) (.int .u8 (0))).setCell (p := ⟨w.heap.size + 1, 4, none⟩) (.inl rfl) (.int .u8 (0))).drew) (fun k hk => by omega))
        clear l0 l1 l2 o2 o3 o4 of hset f1
        generalize (((wr.setCell ⟨w.heap.size + 1, 2, none⟩ (.int .u8 (0))).setCell ⟨w.heap.size + 1, 3, none⟩ (.int .u8 (0))).setCell ⟨w.heap.size + 1, 4, none⟩ (.int .u8 (0))).drew = w5 at HBW2 HOQ HRS2 ⊢
        obtain ⟨wj, rfl⟩ : ∃ x, x = wr := ⟨_, rfl⟩
        have hqe : q = p + 1 := by omega
        subst hqe
        clear hq hj hjl
        go_wp2_with fail
        go_loopw [1] (fun v w' => ∃ t : Nat, t ≤ 8 ∧ v = .int .i64 ((p + 1 + t : Nat) : Int) ∧ Hid (w'.heap[w.heap.size + 1]? = some (.cells (encOp ⟨at8 bs p, 0, 0, 0, 0, numP bs (p + 1) t⟩).toArray 62 (0, 0))) ∧
          Hid (w'.heap[w.heap.size]? = some (.cells #[.int .u8 0, .int .u8 0, .int .u8 0, .int .u8 0, .int .u8 0, .int .i64 0] 62 (0, 0))) ∧ Hid (Below w.heap.size w w')) (fun v _ => ((p + 9 : Int) - intOf v).toNat)
        case atStart => exact ⟨0, by omega, by simp, HOQ, HRS2, HBW2⟩
        case round =>
          obtain ⟨t, ht, hv, HO5, HR5, HB5⟩ := hrel
          obtain ⟨q, hq⟩ : ∃ q, p + 1 + t = q := ⟨_, rfl⟩
          rw [hq] at hv
          subst hv
          by_cases htl : t < 8
          · have hqi : ∀ w, (Instr.index 9 (.string (strOf bs)) (.int .i64 (q : Int))).run Tryz.prog w = .ok (.int .u8 (at8 bs q)) w := fun w => str_indexN bs q (by omega) w
            have hqw : IntKind.i64.wrap ((q : Int) + 1) = q + 1 := IntWalk.i64_in _ (by have := HBS.out; omega)
            have hqlt : (q : Int) < p + 9 := by omega
            have n5 : wr.cell? ⟨w.heap.size + 1, 5, none⟩ = some (.int .i64 (numP bs (p + 1) t)) := cell_of_block (o := 5) HO5.out rfl
            have nf : wr.frozen? ⟨w.heap.size + 1, 5, none⟩ = false := free_of_block (o := 5) HO5.out
            have hb0 : 0 ≤ at8 bs q ∧ at8 bs q < 256 := at8_byte bs q
            have HV := hidI (shl_or_u (numP bs (p + 1) t) (at8 bs q) hb0.1 hb0.2)
            have HNX := hidI (show wr64 (numP bs (p + 1) t * 256 + at8 bs q) = numP bs (p + 1) (t + 1) from by rw [← hq]; rfl)
            clear hb0
            go_wp2_with fail
            go_region
            rw [HV.out, HNX.out]
            have HS5 := hidI (block_setCell (o := 5) (.int .i64 (numP bs (p + 1) (t + 1))) HO5.out)
            clear n5 nf hqi hqlt
            go_wp2_with fail
            refine ⟨⟨t + 1, by omega, by congr 1; omega, hidI HS5.out, hidI ?_, hidI ?_⟩, by simp [intOf]; omega⟩
            · exact block_other (a := ⟨w.heap.size + 1, 5, none⟩) HR5.out (by simp)
            · exact Chg.below (S := fun k => k = w.heap.size + 1) HB5.out HB5.out.size (((Chg.refl (fun k => k = w.heap.size + 1) wr).setCell (p := ⟨w.heap.size + 1, 5, none⟩) (.inl rfl) _).drew) (fun k hk => by omega)
          · obtain rfl : t = 8 := by omega
            have hqe : q = p + 9 := by omega
            subst hqe
            have hge : ¬ (((p + 9 : Nat) : Int) < p + 9) := by omega
            obtain ⟨oo, hoo⟩ : ∃ o : OpD, o = ⟨at8 bs p, 0, 0, 0, 0, numP bs (p + 1) 8⟩ := ⟨_, rfl⟩
            have hO := HO5.out
            rw [← hoo] at hO
            have HOO := hidI hO
            have HEQ := hidI hoo
            clear hO hoo hq htl
            have HWO := hidI (show wfOp oo from by rw [HEQ.out]; exact ⟨at8_byte _ _, by first | exact at8_byte _ _ | (simp only; omega), by first | exact at8_byte _ _ | (simp only; omega), by first | exact at8_byte _ _ | (simp only; omega), by first | exact at8_byte _ _ | (simp only; omega), numP_rng _ _ _⟩)
            have k0 : wr.cell? ⟨w.heap.size + 1, 0, none⟩ = some (.int .u8 oo.kind) := cell_of_block (o := 0) HOO.out rfl
            have k1 : wr.cell? ⟨w.heap.size + 1, 1, none⟩ = some (.int .u8 oo.cal) := cell_of_block (o := 1) HOO.out rfl
            have k2 : wr.cell? ⟨w.heap.size + 1, 2, none⟩ = some (.int .u8 oo.a) := cell_of_block (o := 2) HOO.out rfl
            have k3 : wr.cell? ⟨w.heap.size + 1, 3, none⟩ = some (.int .u8 oo.b) := cell_of_block (o := 3) HOO.out rfl
            have k4 : wr.cell? ⟨w.heap.size + 1, 4, none⟩ = some (.int .u8 oo.c) := cell_of_block (o := 4) HOO.out rfl
            have k5 : wr.cell? ⟨w.heap.size + 1, 5, none⟩ = some (.int .i64 oo.n) := cell_of_block (o := 5) HOO.out rfl
            have HR6 := HR5
            have hgg : ¬ w.heap.size + 1 = w.heap.size := by omega
            have HB6 := HB5
            have hpb := HBS.out
            cases hck : checkS oo with
            | true =>
              have HCV := hidI (show codeV (checkS oo) = .int .i64 0 from by rw [hck]; rfl)
              have HCK := hidI hck
              clear hck hpb
              go_wp2_with fail
              go_region_held3 (fun w' => w'.cell? ⟨w.heap.size + 1, 0, none⟩ = some (.int .u8 oo.kind) ∧ w'.cell? ⟨w.heap.size + 1, 1, none⟩ = some (.int .u8 oo.cal) ∧ w'.cell? ⟨w.heap.size + 1, 2, none⟩ = some (.int .u8 oo.a) ∧ w'.cell? ⟨w.heap.size + 1, 3, none⟩ = some (.int .u8 oo.b) ∧ w'.cell? ⟨w.heap.size + 1, 4, none⟩ = some (.int .u8 oo.c) ∧ w'.cell? ⟨w.heap.size + 1, 5, none⟩ = some (.int .i64 oo.n))
                (refine ⟨?_, ?_, ?_, ?_, ?_, ?_⟩ <;> ((try simp only [World.cell?_drew]); repeat (refine cell_far ?_ hgg)) <;> assumption)
                (first | (go_at_call 95; refine (rcheck_any _ oo HWO.out).mono ?_; rintro e6 w6 ⟨he6, hb6⟩; rw [HCV.out] at he6; subst he6; obtain ⟨s0, s1, s2, s3, s4, s5, r0, r1, r2, r3, r4, r5, rf⟩ := one_behind HOO.out HR6.out hb6; have HB7 := hidI hb6; clear hb6))
              all_goals (
                have hr6 := blk (w := wr.drew) HB7.out HR6.out
                have hset := block_setCell (o := 5) (.int .i64 oo.n) (block_setCell (o := 4) (.int .u8 oo.c) (block_setCell (o := 3) (.int .u8 oo.b) (block_setCell (o := 2) (.int .u8 oo.a) (block_setCell (o := 1) (.int .u8 oo.cal) (block_setCell (o := 0) (.int .u8 oo.kind) hr6)))))
                have hv : oneV bs p (at8 bs p) ⟨false, 0, true, fl, fM⟩ = .tuple #[.agg (encOp oo).toArray, .int .i64 ((p : Int) + 9), .bool true] := by
                  have e : opAt bs p (at8 bs p) ⟨false, 0, true, fl, fM⟩ = oo := by rw [HEQ.out]; simp [opAt, numP, num8]
                  have e2 : ((p + 1 + needF ⟨false, 0, true, fl, fM⟩ : Nat) : Int) = (p : Int) + 9 := by first | (simp [needF]; done) | (simp [needF]; omega)
                  unfold oneV
                  rw [if_neg (by simp [needF]; omega), e, HCK.out, e2]
                have HSET := hidI hset
                have HVV := hidI hv
                clear hr6 hset hv s0 s1 s2 s3 s4 s5 r0 r1 r2 r3 r4 r5 rf k0 k1 k2 k3 k4 k5
                go_wp2_with fail
                refine bodyPost_ret (v := .tuple #[.agg (encOp oo).toArray, .int .i64 ((p : Int) + 9), .bool true]) (results_one (o := oo) rfl rfl rfl HSET.out) rfl ⟨by rw [HVV.out], ?_⟩
                have hb7 : Below w.heap.size w w6 := (below_drewN HB6.out 1).trans (HB7.out.mono HB6.out.size)
                have hc7 := ((((((Chg.refl (fun k => k = w.heap.size) w6).setCell (p := ⟨w.heap.size, 0, none⟩) (.inl rfl) (.int .u8 oo.kind)).setCell (p := ⟨w.heap.size, 1, none⟩) (.inl rfl) (.int .u8 oo.cal)).setCell (p := ⟨w.heap.size, 2, none⟩) (.inl rfl) (.int .u8 oo.a)).setCell (p := ⟨w.heap.size, 3, none⟩) (.inl rfl) (.int .u8 oo.b)).setCell (p := ⟨w.heap.size, 4, none⟩) (.inl rfl) (.int .u8 oo.c)).setCell (p := ⟨w.heap.size, 5, none⟩) (.inl rfl) (.int .i64 oo.n)
                exact Chg.below (S := fun k => k = w.heap.size) hb7 hb7.size hc7 (fun k hk => by omega))
            | false =>
              have HCV := hidI (show codeV (checkS oo) = .int .i64 1 from by rw [hck]; rfl)
              have HCK := hidI hck
              clear hck hpb
              go_wp2_with fail
              go_region_held3 (fun w' => w'.cell? ⟨w.heap.size + 1, 0, none⟩ = some (.int .u8 oo.kind) ∧ w'.cell? ⟨w.heap.size + 1, 1, none⟩ = some (.int .u8 oo.cal) ∧ w'.cell? ⟨w.heap.size + 1, 2, none⟩ = some (.int .u8 oo.a) ∧ w'.cell? ⟨w.heap.size + 1, 3, none⟩ = some (.int .u8 oo.b) ∧ w'.cell? ⟨w.heap.size + 1, 4, none⟩ = some (.int .u8 oo.c) ∧ w'.cell? ⟨w.heap.size + 1, 5, none⟩ = some (.int .i64 oo.n))
                (refine ⟨?_, ?_, ?_, ?_, ?_, ?_⟩ <;> ((try simp only [World.cell?_drew]); repeat (refine cell_far ?_ hgg)) <;> assumption)
                (first | (go_at_call 95; refine (rcheck_any _ oo HWO.out).mono ?_; rintro e6 w6 ⟨he6, hb6⟩; rw [HCV.out] at he6; subst he6; obtain ⟨s0, s1, s2, s3, s4, s5, r0, r1, r2, r3, r4, r5, rf⟩ := one_behind HOO.out HR6.out hb6; have HB7 := hidI hb6; clear hb6))
              all_goals (
                have hr6 := blk (w := wr.drew) HB7.out HR6.out
                have hset := block_setCell (o := 5) (.int .i64 oo.n) (block_setCell (o := 4) (.int .u8 oo.c) (block_setCell (o := 3) (.int .u8 oo.b) (block_setCell (o := 2) (.int .u8 oo.a) (block_setCell (o := 1) (.int .u8 oo.cal) (block_setCell (o := 0) (.int .u8 oo.kind) hr6)))))
                have hv : oneV bs p (at8 bs p) ⟨false, 0, true, fl, fM⟩ = .tuple #[.agg (encOp oo).toArray, .int .i64 ((p : Int) + 9), .bool false] := by
                  have e : opAt bs p (at8 bs p) ⟨false, 0, true, fl, fM⟩ = oo := by rw [HEQ.out]; simp [opAt, numP, num8]
                  have e2 : ((p + 1 + needF ⟨false, 0, true, fl, fM⟩ : Nat) : Int) = (p : Int) + 9 := by first | (simp [needF]; done) | (simp [needF]; omega)
                  unfold oneV
                  rw [if_neg (by simp [needF]; omega), e, HCK.out, e2]
                have HSET := hidI hset
                have HVV := hidI hv
                clear hr6 hset hv s0 s1 s2 s3 s4 s5 r0 r1 r2 r3 r4 r5 rf k0 k1 k2 k3 k4 k5
                go_wp2_with fail
                refine bodyPost_ret (v := .tuple #[.agg (encOp oo).toArray, .int .i64 ((p : Int) + 9), .bool false]) (results_one (o := oo) rfl rfl rfl HSET.out) rfl ⟨by rw [HVV.out], ?_⟩
                have hb7 : Below w.heap.size w w6 := (below_drewN HB6.out 1).trans (HB7.out.mono HB6.out.size)
                have hc7 := ((((((Chg.refl (fun k => k = w.heap.size) w6).setCell (p := ⟨w.heap.size, 0, none⟩) (.inl rfl) (.int .u8 oo.kind)).setCell (p := ⟨w.heap.size, 1, none⟩) (.inl rfl) (.int .u8 oo.cal)).setCell (p := ⟨w.heap.size, 2, none⟩) (.inl rfl) (.int .u8 oo.a)).setCell (p := ⟨w.heap.size, 3, none⟩) (.inl rfl) (.int .u8 oo.b)).setCell (p := ⟨w.heap.size, 4, none⟩) (.inl rfl) (.int .u8 oo.c)).setCell (p := ⟨w.heap.size, 5, none⟩) (.inl rfl) (.int .i64 oo.n)
                exact Chg.below (S := fun k => k = w.heap.size) hb7 hb7.size hc7 (fun k hk => by omega))

set_option maxHeartbeats 2000000 in
theorem one_031 (w : World) (bs : List UInt8) (p : Nat) (hp : p < bs.length) (hbs : bs.length ≤ 9223372036854775807) (fl fM : Int) (hf : formS (at8 bs p) = some ⟨false, 3, true, fl, fM⟩) :
    Calls Tryz.prog 12 #[.string (strOf bs), .int .i64 (p : Int)] w fun e w' => e = .returned (oneV bs p (at8 bs p) ⟨false, 3, true, fl, fM⟩) ∧ Below w.heap.size w w' := by
  have hix := fun w => str_indexN bs p hp w
  have HF := hidI hf
  have HBS := hidI hbs
  have hsz := strOf_size bs
  have e1 : IntKind.i64.wrap ((bs.length : Int) - p) = bs.length - p := IntWalk.i64_in _ (by omega)
  clear hf hbs
  go_enter Tryz.func12, Tryz.ntmps12
  go_wp2_with fail
  refine (fields_any _ _).mono ?_
  rintro e w1 ⟨rfl, hb1⟩
  rw [HF.out]
  unfold fieldsV encFd
  have hr := blkA hb1 (block_new w (.cells #[.int .u8 0, .int .u8 0, .int .u8 0, .int .u8 0, .int .u8 0, .int .i64 0] 62))
  have hr' : ∀ o : Obj, (w1.alloc o).heap[w.heap.size]? = some (.cells #[.int .u8 0, .int .u8 0, .int .u8 0, .int .u8 0, .int .u8 0, .int .i64 0] 62 (0, 0)) := fun o => block_alloc hr
  have q1 : ∀ o : Obj, (w1.alloc o).there w.heap.size 0 6 := fun o j hj => by
    rw [Nat.zero_add]
    exact ⟨by rw [cell_of_block (hr' o) (Array.getElem?_eq_getElem (by simpa using hj))]; rfl, free_of_block (hr' o)⟩
  have HB1 := hidI (((Below.refl w.heap.size w).alloc (Nat.le_refl _) (.cells #[.int .u8 0, .int .u8 0, .int .u8 0, .int .u8 0, .int .u8 0, .int .i64 0] 62)).alloc (by simp) (.cells #[.int .u8 (at8 bs p), .int .u8 0, .int .u8 0, .int .u8 0, .int .u8 0, .int .i64 0] 62) |>.trans (hb1.mono (by simp; omega)))
  have HR := hidI hr'
  have HO := hidI (blk hb1 (block_new2 w (.cells #[.int .u8 0, .int .u8 0, .int .u8 0, .int .u8 0, .int .u8 0, .int .i64 0] 62) (.cells #[.int .u8 (at8 bs p), .int .u8 0, .int .u8 0, .int .u8 0, .int .u8 0, .int .i64 0] 62)))
  have HBX := hidI (show w.heap.size + 1 < w1.heap.size from by have := hb1.size; simp at this; omega)
  clear hb1 hr
  by_cases hs : bs.length < p + 12
  · have hlt : (bs.length : Int) - p < 12 := by omega
    go_wp2_with (refine wpList_store_mid rfl 62 _ _ rfl w.heap.size 0 (encOp zeroOp).toArray rfl rfl (q1 _) opInfo6 (op_one zeroOp) ?_)
    refine bodyPost_ret (v := noOne) (results_one (o := zeroOp) rfl rfl rfl (setCells_whole (HR.out _) rfl)) rfl ⟨?_, below_setCells (Nat.le_refl _) (Nat.le_refl _) _ _ (HB1.out.alloc HB1.out.size _)⟩
    unfold oneV
    rw [if_pos (by simp [needF]; omega)]
  · have hlt : ¬ ((bs.length : Int) - p < 12) := by omega
    have hcx : ∀ i, i < 12 → ∀ w, (Instr.index 9 (.string (strOf bs)) (.int .i64 ((p + i : Nat) : Int))).run Tryz.prog w = .ok (.int .u8 (at8 bs (p + i))) w := fun i hi w => str_indexN bs (p + i) (by omega) w
    have HCX := hidI hcx
    have hpb := HBS.out
    go_wp2_with fail
    have HP := hidI hpb
    clear hpb
    go_loopw [13, 1] (fun i v w' => ∃ j : Nat, j ≤ 3 ∧ i = .int .i64 (j : Int) ∧ v = .int .i64 ((p + 1 + j : Nat) : Int) ∧ Hid (w'.heap[w.heap.size + 1]? = some (.cells (encOp ⟨at8 bs p, 0, 0, 0, 0, 0⟩).toArray 62 (0, 0))) ∧
      Hid (w'.heap[w1.heap.size + 1]? = some (.cells #[.int .u8 (if 0 < j then at8 bs (p + 1) else 0), .int .u8 (if 1 < j then at8 bs (p + 1 + 1) else 0), .int .u8 (if 2 < j then at8 bs (p + 1 + 2) else 0)] 77 (0, 0))) ∧
      Hid (w'.heap[w1.heap.size]? = some (.cells #[.bool false, .int .i64 3, .bool true] 79 (0, 0))) ∧ Hid (w'.heap[w.heap.size]? = some (.cells #[.int .u8 0, .int .u8 0, .int .u8 0, .int .u8 0, .int .u8 0, .int .i64 0] 62 (0, 0))) ∧ Hid (Below w.heap.size w w')) (fun i _ _ => ((3 : Int) - intOf i).toNat)
    case atStart =>
      refine ⟨0, by omega, rfl, by first | rfl | (congr 1; omega) | congr 1, hidI ?_, hidI ?_, hidI ?_, hidI ?_, hidI ?_⟩
      · exact block_alloc (block_alloc HO.out)
      · rw [block_new2]; rfl
      · exact block_alloc (block_new w1 _)
      · exact block_alloc (HR.out _)
      · exact (HB1.out.alloc HB1.out.size _).alloc (by have := HB1.out.size; simp; omega) _
    case round =>
      obtain ⟨j, hj, rfl, hv, HOP, HRG, HFM, HRS, HBW⟩ := hrel
      obtain ⟨q, hq⟩ : ∃ q, p + 1 + j = q := ⟨_, rfl⟩
      rw [hq] at hv
      subst hv
      have f1 : wr.cell? ⟨w1.heap.size, 1, none⟩ = some (.int .i64 3) := cell_of_block (o := 1) HFM.out rfl
      have hbw := HB1.out.size
      by_cases hjl : j < 3
      · have hqi : ∀ w, (Instr.index 9 (.string (strOf bs)) (.int .i64 (q : Int))).run Tryz.prog w = .ok (.int .u8 (at8 bs q)) w := fun w => str_indexN bs q (by omega) w
        have hqw : IntKind.i64.wrap ((q : Int) + 1) = q + 1 := IntWalk.i64_in _ (by have := HBS.out; omega)
        have hnb : w.heap.size ≤ w1.heap.size := hbw
        rcases (by omega : j = 0 ∨ j = 1 ∨ j = 2) with rfl | rfl | rfl
        · have hrg : wr.heap[w1.heap.size + 1]? = some (.cells #[.int .u8 (0), .int .u8 (0), .int .u8 (0)] 77 (0, 0)) := by simpa using HRG.out
          have g1 := cell_of_block (o := 0) hrg rfl
          have g2 := free_of_block (o := 0) hrg
          have HRG2 := hidI (block_setCell (o := 0) (.int .u8 (at8 bs q)) hrg)
          clear hrg
          go_wp2_with fail
          refine ⟨⟨0 + 1, by omega, by go_num, by congr 1; omega, hidI ?_, hidI ?_, hidI ?_, hidI ?_, hidI ?_⟩, by simp [intOf]⟩
          · rw [Below.heap_setCell _ _ _ _ (by show w.heap.size + 1 ≠ w1.heap.size + 1; have := HBX.out; omega)]; exact HOP.out
          · rw [HRG2.out, ← hq]; rfl
          · rw [Below.heap_setCell _ _ _ _ (by show w1.heap.size ≠ w1.heap.size + 1; omega)]; exact HFM.out
          · rw [Below.heap_setCell _ _ _ _ (by show w.heap.size ≠ w1.heap.size + 1; omega)]; exact HRS.out
          · exact Chg.below (S := fun k => k = w1.heap.size + 1) HBW.out HBW.out.size ((Chg.refl (fun k => k = w1.heap.size + 1) wr).setCell (p := ⟨w1.heap.size + 1, 0, none⟩) (.inl rfl) _) (fun k hk => by omega)
        · have hrg : wr.heap[w1.heap.size + 1]? = some (.cells #[.int .u8 (at8 bs (p + 1)), .int .u8 (0), .int .u8 (0)] 77 (0, 0)) := by simpa using HRG.out
          have g1 := cell_of_block (o := 1) hrg rfl
          have g2 := free_of_block (o := 1) hrg
          have HRG2 := hidI (block_setCell (o := 1) (.int .u8 (at8 bs q)) hrg)
          clear hrg
          go_wp2_with fail
          refine ⟨⟨1 + 1, by omega, by go_num, by congr 1; omega, hidI ?_, hidI ?_, hidI ?_, hidI ?_, hidI ?_⟩, by simp [intOf]⟩
          · rw [Below.heap_setCell _ _ _ _ (by show w.heap.size + 1 ≠ w1.heap.size + 1; have := HBX.out; omega)]; exact HOP.out
          · rw [HRG2.out, ← hq]; rfl
          · rw [Below.heap_setCell _ _ _ _ (by show w1.heap.size ≠ w1.heap.size + 1; omega)]; exact HFM.out
          · rw [Below.heap_setCell _ _ _ _ (by show w.heap.size ≠ w1.heap.size + 1; omega)]; exact HRS.out
          · exact Chg.below (S := fun k => k = w1.heap.size + 1) HBW.out HBW.out.size ((Chg.refl (fun k => k = w1.heap.size + 1) wr).setCell (p := ⟨w1.heap.size + 1, 1, none⟩) (.inl rfl) _) (fun k hk => by omega)
        · have hrg : wr.heap[w1.heap.size + 1]? = some (.cells #[.int .u8 (at8 bs (p + 1)), .int .u8 (at8 bs (p + 1 + 1)), .int .u8 (0)] 77 (0, 0)) := by simpa using HRG.out
          have g1 := cell_of_block (o := 2) hrg rfl
          have g2 := free_of_block (o := 2) hrg
          have HRG2 := hidI (block_setCell (o := 2) (.int .u8 (at8 bs q)) hrg)
          clear hrg
          go_wp2_with fail
          refine ⟨⟨2 + 1, by omega, by go_num, by congr 1; omega, hidI ?_, hidI ?_, hidI ?_, hidI ?_, hidI ?_⟩, by simp [intOf]⟩
          · rw [Below.heap_setCell _ _ _ _ (by show w.heap.size + 1 ≠ w1.heap.size + 1; have := HBX.out; omega)]; exact HOP.out
          · rw [HRG2.out, ← hq]; rfl
          · rw [Below.heap_setCell _ _ _ _ (by show w1.heap.size ≠ w1.heap.size + 1; omega)]; exact HFM.out
          · rw [Below.heap_setCell _ _ _ _ (by show w.heap.size ≠ w1.heap.size + 1; omega)]; exact HRS.out
          · exact Chg.below (S := fun k => k = w1.heap.size + 1) HBW.out HBW.out.size ((Chg.refl (fun k => k = w1.heap.size + 1) wr).setCell (p := ⟨w1.heap.size + 1, 2, none⟩) (.inl rfl) _) (fun k hk => by omega)
      · obtain rfl : j = 3 := by omega
        have hrg : wr.heap[w1.heap.size + 1]? = some (.cells #[.int .u8 (at8 bs (p + 1)), .int .u8 (at8 bs (p + 1 + 1)), .int .u8 (at8 bs (p + 1 + 2))] 77 (0, 0)) := by simpa using HRG.out
        have l0 := cell_of_block (o := 0) hrg rfl
        have l1 := cell_of_block (o := 1) hrg rfl
        have l2 := cell_of_block (o := 2) hrg rfl
        have o2 : wr.cell? ⟨w.heap.size + 1, 2, none⟩ = some (.int .u8 0) := cell_of_block (o := 2) HOP.out rfl
        have o3 : wr.cell? ⟨w.heap.size + 1, 3, none⟩ = some (.int .u8 0) := cell_of_block (o := 3) HOP.out rfl
        have o4 : wr.cell? ⟨w.heap.size + 1, 4, none⟩ = some (.int .u8 0) := cell_of_block (o := 4) HOP.out rfl
        have of : ∀ i, wr.frozen? ⟨w.heap.size + 1, i, none⟩ = false := fun i => free_of_block (o := i) HOP.out
        have hnn : ¬ w1.heap.size + 1 = w.heap.size + 1 := by have := HBX.out; omega
        clear hrg
        go_wp2_with fail
        go_region_held3 (fun w' => w'.cell? ⟨w1.heap.size + 1, 0, none⟩ = some (.int .u8 (at8 bs (p + 1))) ∧ w'.cell? ⟨w1.heap.size + 1, 1, none⟩ = some (.int .u8 (at8 bs (p + 1 + 1))) ∧ w'.cell? ⟨w1.heap.size + 1, 2, none⟩ = some (.int .u8 (at8 bs (p + 1 + 2))))
          (refine ⟨?_, ?_, ?_⟩ <;> (simp only [World.cell?_drew]; repeat (refine cell_far ?_ hnn)) <;> assumption) (fail)
        have hset := block_setCell (o := 4) (.int .u8 (at8 bs (p + 1 + 2))) (block_setCell (o := 3) (.int .u8 (at8 bs (p + 1 + 1))) (block_setCell (o := 2) (.int .u8 (at8 bs (p + 1))) HOP.out))
        have HOQ : Hid ((((wr.setCell ⟨w.heap.size + 1, 2, none⟩ (.int .u8 (at8 bs (p + 1)))).setCell ⟨w.heap.size + 1, 3, none⟩ (.int .u8 (at8 bs (p + 1 + 1)))).setCell ⟨w.heap.size + 1, 4, none⟩ (.int .u8 (at8 bs (p + 1 + 2)))).drew.heap[w.heap.size + 1]? = some (.cells (encOp ⟨at8 bs p, 0, at8 bs (p + 1), at8 bs (p + 1 + 1), at8 bs (p + 1 + 2), numP bs (p + 4) 0⟩).toArray 62 (0, 0))) := hidI hset
        have HRS2 : Hid ((((wr.setCell ⟨w.heap.size + 1, 2, none⟩ (.int .u8 (at8 bs (p + 1)))).setCell ⟨w.heap.size + 1, 3, none⟩ (.int .u8 (at8 bs (p + 1 + 1)))).setCell ⟨w.heap.size + 1, 4, none⟩ (.int .u8 (at8 bs (p + 1 + 2)))).drew.heap[w.heap.size]? = some (.cells #[.int .u8 0, .int .u8 0, .int .u8 0, .int .u8 0, .int .u8 0, .int .i64 0] 62 (0, 0))) := hidI (block_other (a := ⟨w.heap.size + 1, 4, none⟩) (u := .int .u8 (at8 bs (p + 1 + 2))) (block_other (a := ⟨w.heap.size + 1, 3, none⟩) (u := .int .u8 (at8 bs (p + 1 + 1))) (block_other (a := ⟨w.heap.size + 1, 2, none⟩) (u := .int .u8 (at8 bs (p + 1))) HRS.out (by simp)) (by simp)) (by simp))
        have HBW2 := hidI (Chg.below (S := fun k => k = w.heap.size + 1) HBW.out HBW.out.size (((((Chg.refl (fun k => k = w.heap.size + 1) wr).setCell (p := ⟨w.heap.size + 1, 2, none⟩) (.inl rfl) (.int .u8 (at8 bs (p + 1)))).setCell (p := ⟨w.heap.size + 1, 3, none⟩) (.inl rfl) (.int .u8 (at8 bs (p + 1 + 1)))).setCell (p := ⟨w.heap.size + 1, 4, none⟩) (.inl rfl) (.int .u8 (at8 bs (p + 1 + 2)))).drew) (fun k hk => by omega))
        clear l0 l1 l2 o2 o3 o4 of hset f1
        generalize (((wr.setCell ⟨w.heap.size + 1, 2, none⟩ (.int .u8 (at8 bs (p + 1)))).setCell ⟨w.heap.size + 1, 3, none⟩ (.int .u8 (at8 bs (p + 1 + 1)))).setCell ⟨w.heap.size + 1, 4, none⟩ (.int .u8 (at8 bs (p + 1 + 2)))).drew = w5 at HBW2 HOQ HRS2 ⊢
        obtain ⟨wj, rfl⟩ : ∃ x, x = wr := ⟨_, rfl⟩
        have hqe : q = p + 4 := by omega
        subst hqe
        clear hq hj hjl
        go_wp2_with fail
        go_loopw [1] (fun v w' => ∃ t : Nat, t ≤ 8 ∧ v = .int .i64 ((p + 4 + t : Nat) : Int) ∧ Hid (w'.heap[w.heap.size + 1]? = some (.cells (encOp ⟨at8 bs p, 0, at8 bs (p + 1), at8 bs (p + 1 + 1), at8 bs (p + 1 + 2), numP bs (p + 4) t⟩).toArray 62 (0, 0))) ∧
          Hid (w'.heap[w.heap.size]? = some (.cells #[.int .u8 0, .int .u8 0, .int .u8 0, .int .u8 0, .int .u8 0, .int .i64 0] 62 (0, 0))) ∧ Hid (Below w.heap.size w w')) (fun v _ => ((p + 12 : Int) - intOf v).toNat)
        case atStart => exact ⟨0, by omega, by simp, HOQ, HRS2, HBW2⟩
        case round =>
          obtain ⟨t, ht, hv, HO5, HR5, HB5⟩ := hrel
          obtain ⟨q, hq⟩ : ∃ q, p + 4 + t = q := ⟨_, rfl⟩
          rw [hq] at hv
          subst hv
          by_cases htl : t < 8
          · have hqi : ∀ w, (Instr.index 9 (.string (strOf bs)) (.int .i64 (q : Int))).run Tryz.prog w = .ok (.int .u8 (at8 bs q)) w := fun w => str_indexN bs q (by omega) w
            have hqw : IntKind.i64.wrap ((q : Int) + 1) = q + 1 := IntWalk.i64_in _ (by have := HBS.out; omega)
            have hqlt : (q : Int) < p + 12 := by omega
            have n5 : wr.cell? ⟨w.heap.size + 1, 5, none⟩ = some (.int .i64 (numP bs (p + 4) t)) := cell_of_block (o := 5) HO5.out rfl
            have nf : wr.frozen? ⟨w.heap.size + 1, 5, none⟩ = false := free_of_block (o := 5) HO5.out
            have hb0 : 0 ≤ at8 bs q ∧ at8 bs q < 256 := at8_byte bs q
            have HV := hidI (shl_or_u (numP bs (p + 4) t) (at8 bs q) hb0.1 hb0.2)
            have HNX := hidI (show wr64 (numP bs (p + 4) t * 256 + at8 bs q) = numP bs (p + 4) (t + 1) from by rw [← hq]; rfl)
            clear hb0
            go_wp2_with fail
            go_region
            rw [HV.out, HNX.out]
            have HS5 := hidI (block_setCell (o := 5) (.int .i64 (numP bs (p + 4) (t + 1))) HO5.out)
            clear n5 nf hqi hqlt
            go_wp2_with fail
            refine ⟨⟨t + 1, by omega, by congr 1; omega, hidI HS5.out, hidI ?_, hidI ?_⟩, by simp [intOf]; omega⟩
            · exact block_other (a := ⟨w.heap.size + 1, 5, none⟩) HR5.out (by simp)
            · exact Chg.below (S := fun k => k = w.heap.size + 1) HB5.out HB5.out.size (((Chg.refl (fun k => k = w.heap.size + 1) wr).setCell (p := ⟨w.heap.size + 1, 5, none⟩) (.inl rfl) _).drew) (fun k hk => by omega)
          · obtain rfl : t = 8 := by omega
            have hqe : q = p + 12 := by omega
            subst hqe
            have hge : ¬ (((p + 12 : Nat) : Int) < p + 12) := by omega
            obtain ⟨oo, hoo⟩ : ∃ o : OpD, o = ⟨at8 bs p, 0, at8 bs (p + 1), at8 bs (p + 1 + 1), at8 bs (p + 1 + 2), numP bs (p + 4) 8⟩ := ⟨_, rfl⟩
            have hO := HO5.out
            rw [← hoo] at hO
            have HOO := hidI hO
            have HEQ := hidI hoo
            clear hO hoo hq htl
            have HWO := hidI (show wfOp oo from by rw [HEQ.out]; exact ⟨at8_byte _ _, by first | exact at8_byte _ _ | (simp only; omega), by first | exact at8_byte _ _ | (simp only; omega), by first | exact at8_byte _ _ | (simp only; omega), by first | exact at8_byte _ _ | (simp only; omega), numP_rng _ _ _⟩)
            have k0 : wr.cell? ⟨w.heap.size + 1, 0, none⟩ = some (.int .u8 oo.kind) := cell_of_block (o := 0) HOO.out rfl
            have k1 : wr.cell? ⟨w.heap.size + 1, 1, none⟩ = some (.int .u8 oo.cal) := cell_of_block (o := 1) HOO.out rfl
            have k2 : wr.cell? ⟨w.heap.size + 1, 2, none⟩ = some (.int .u8 oo.a) := cell_of_block (o := 2) HOO.out rfl
            have k3 : wr.cell? ⟨w.heap.size + 1, 3, none⟩ = some (.int .u8 oo.b) := cell_of_block (o := 3) HOO.out rfl
            have k4 : wr.cell? ⟨w.heap.size + 1, 4, none⟩ = some (.int .u8 oo.c) := cell_of_block (o := 4) HOO.out rfl
            have k5 : wr.cell? ⟨w.heap.size + 1, 5, none⟩ = some (.int .i64 oo.n) := cell_of_block (o := 5) HOO.out rfl
            have HR6 := HR5
            have hgg : ¬ w.heap.size + 1 = w.heap.size := by omega
            have HB6 := HB5
            have hpb := HBS.out
            cases hck : checkS oo with
            | true =>
              have HCV := hidI (show codeV (checkS oo) = .int .i64 0 from by rw [hck]; rfl)
              have HCK := hidI hck
              clear hck hpb
              go_wp2_with fail
              go_region_held3 (fun w' => w'.cell? ⟨w.heap.size + 1, 0, none⟩ = some (.int .u8 oo.kind) ∧ w'.cell? ⟨w.heap.size + 1, 1, none⟩ = some (.int .u8 oo.cal) ∧ w'.cell? ⟨w.heap.size + 1, 2, none⟩ = some (.int .u8 oo.a) ∧ w'.cell? ⟨w.heap.size + 1, 3, none⟩ = some (.int .u8 oo.b) ∧ w'.cell? ⟨w.heap.size + 1, 4, none⟩ = some (.int .u8 oo.c) ∧ w'.cell? ⟨w.heap.size + 1, 5, none⟩ = some (.int .i64 oo.n))
                (refine ⟨?_, ?_, ?_, ?_, ?_, ?_⟩ <;> ((try simp only [World.cell?_drew]); repeat (refine cell_far ?_ hgg)) <;> assumption)
                (first | (go_at_call 95; refine (rcheck_any _ oo HWO.out).mono ?_; rintro e6 w6 ⟨he6, hb6⟩; rw [HCV.out] at he6; subst he6; obtain ⟨s0, s1, s2, s3, s4, s5, r0, r1, r2, r3, r4, r5, rf⟩ := one_behind HOO.out HR6.out hb6; have HB7 := hidI hb6; clear hb6))
              all_goals (
                have hr6 := blk (w := wr.drew) HB7.out HR6.out
                have hset := block_setCell (o := 5) (.int .i64 oo.n) (block_setCell (o := 4) (.int .u8 oo.c) (block_setCell (o := 3) (.int .u8 oo.b) (block_setCell (o := 2) (.int .u8 oo.a) (block_setCell (o := 1) (.int .u8 oo.cal) (block_setCell (o := 0) (.int .u8 oo.kind) hr6)))))
                have hv : oneV bs p (at8 bs p) ⟨false, 3, true, fl, fM⟩ = .tuple #[.agg (encOp oo).toArray, .int .i64 ((p : Int) + 12), .bool true] := by
                  have e : opAt bs p (at8 bs p) ⟨false, 3, true, fl, fM⟩ = oo := by rw [HEQ.out]; simp [opAt, numP, num8]
                  have e2 : ((p + 1 + needF ⟨false, 3, true, fl, fM⟩ : Nat) : Int) = (p : Int) + 12 := by first | (simp [needF]; done) | (simp [needF]; omega)
                  unfold oneV
                  rw [if_neg (by simp [needF]; omega), e, HCK.out, e2]
                have HSET := hidI hset
                have HVV := hidI hv
                clear hr6 hset hv s0 s1 s2 s3 s4 s5 r0 r1 r2 r3 r4 r5 rf k0 k1 k2 k3 k4 k5
                go_wp2_with fail
                refine bodyPost_ret (v := .tuple #[.agg (encOp oo).toArray, .int .i64 ((p : Int) + 12), .bool true]) (results_one (o := oo) rfl rfl rfl HSET.out) rfl ⟨by rw [HVV.out], ?_⟩
                have hb7 : Below w.heap.size w w6 := (below_drewN HB6.out 1).trans (HB7.out.mono HB6.out.size)
                have hc7 := ((((((Chg.refl (fun k => k = w.heap.size) w6).setCell (p := ⟨w.heap.size, 0, none⟩) (.inl rfl) (.int .u8 oo.kind)).setCell (p := ⟨w.heap.size, 1, none⟩) (.inl rfl) (.int .u8 oo.cal)).setCell (p := ⟨w.heap.size, 2, none⟩) (.inl rfl) (.int .u8 oo.a)).setCell (p := ⟨w.heap.size, 3, none⟩) (.inl rfl) (.int .u8 oo.b)).setCell (p := ⟨w.heap.size, 4, none⟩) (.inl rfl) (.int .u8 oo.c)).setCell (p := ⟨w.heap.size, 5, none⟩) (.inl rfl) (.int .i64 oo.n)
                exact Chg.below (S := fun k => k = w.heap.size) hb7 hb7.size hc7 (fun k hk => by omega))
            | false =>
              have HCV := hidI (show codeV (checkS oo) = .int .i64 1 from by rw [hck]; rfl)
              have HCK := hidI hck
              clear hck hpb
              go_wp2_with fail
              go_region_held3 (fun w' => w'.cell? ⟨w.heap.size + 1, 0, none⟩ = some (.int .u8 oo.kind) ∧ w'.cell? ⟨w.heap.size + 1, 1, none⟩ = some (.int .u8 oo.cal) ∧ w'.cell? ⟨w.heap.size + 1, 2, none⟩ = some (.int .u8 oo.a) ∧ w'.cell? ⟨w.heap.size + 1, 3, none⟩ = some (.int .u8 oo.b) ∧ w'.cell? ⟨w.heap.size + 1, 4, none⟩ = some (.int .u8 oo.c) ∧ w'.cell? ⟨w.heap.size + 1, 5, none⟩ = some (.int .i64 oo.n))
                (refine ⟨?_, ?_, ?_, ?_, ?_, ?_⟩ <;> ((try simp only [World.cell?_drew]); repeat (refine cell_far ?_ hgg)) <;> assumption)
                (first | (go_at_call 95; refine (rcheck_any _ oo HWO.out).mono ?_; rintro e6 w6 ⟨he6, hb6⟩; rw [HCV.out] at he6; subst he6; obtain ⟨s0, s1, s2, s3, s4, s5, r0, r1, r2, r3, r4, r5, rf⟩ := one_behind HOO.out HR6.out hb6; have HB7 := hidI hb6; clear hb6))
              all_goals (
                have hr6 := blk (w := wr.drew) HB7.out HR6.out
                have hset := block_setCell (o := 5) (.int .i64 oo.n) (block_setCell (o := 4) (.int .u8 oo.c) (block_setCell (o := 3) (.int .u8 oo.b) (block_setCell (o := 2) (.int .u8 oo.a) (block_setCell (o := 1) (.int .u8 oo.cal) (block_setCell (o := 0) (.int .u8 oo.kind) hr6)))))
                have hv : oneV bs p (at8 bs p) ⟨false, 3, true, fl, fM⟩ = .tuple #[.agg (encOp oo).toArray, .int .i64 ((p : Int) + 12), .bool false] := by
                  have e : opAt bs p (at8 bs p) ⟨false, 3, true, fl, fM⟩ = oo := by rw [HEQ.out]; simp [opAt, numP, num8]
                  have e2 : ((p + 1 + needF ⟨false, 3, true, fl, fM⟩ : Nat) : Int) = (p : Int) + 12 := by first | (simp [needF]; done) | (simp [needF]; omega)
                  unfold oneV
                  rw [if_neg (by simp [needF]; omega), e, HCK.out, e2]
                have HSET := hidI hset
                have HVV := hidI hv
                clear hr6 hset hv s0 s1 s2 s3 s4 s5 r0 r1 r2 r3 r4 r5 rf k0 k1 k2 k3 k4 k5
                go_wp2_with fail
                refine bodyPost_ret (v := .tuple #[.agg (encOp oo).toArray, .int .i64 ((p : Int) + 12), .bool false]) (results_one (o := oo) rfl rfl rfl HSET.out) rfl ⟨by rw [HVV.out], ?_⟩
                have hb7 : Below w.heap.size w w6 := (below_drewN HB6.out 1).trans (HB7.out.mono HB6.out.size)
                have hc7 := ((((((Chg.refl (fun k => k = w.heap.size) w6).setCell (p := ⟨w.heap.size, 0, none⟩) (.inl rfl) (.int .u8 oo.kind)).setCell (p := ⟨w.heap.size, 1, none⟩) (.inl rfl) (.int .u8 oo.cal)).setCell (p := ⟨w.heap.size, 2, none⟩) (.inl rfl) (.int .u8 oo.a)).setCell (p := ⟨w.heap.size, 3, none⟩) (.inl rfl) (.int .u8 oo.b)).setCell (p := ⟨w.heap.size, 4, none⟩) (.inl rfl) (.int .u8 oo.c)).setCell (p := ⟨w.heap.size, 5, none⟩) (.inl rfl) (.int .i64 oo.n)
                exact Chg.below (S := fun k => k = w.heap.size) hb7 hb7.size hc7 (fun k hk => by omega))

set_option maxHeartbeats 2000000 in
theorem one_000 (w : World) (bs : List UInt8) (p : Nat) (hp : p < bs.length) (hbs : bs.length ≤ 9223372036854775807) (fl fM : Int) (hf : formS (at8 bs p) = some ⟨false, 0, false, fl, fM⟩) :
    Calls Tryz.prog 12 #[.string (strOf bs), .int .i64 (p : Int)] w fun e w' => e = .returned (oneV bs p (at8 bs p) ⟨false, 0, false, fl, fM⟩) ∧ Below w.heap.size w w' := by
  have hix := fun w => str_indexN bs p hp w
  have HF := hidI hf
  have HBS := hidI hbs
  have hsz := strOf_size bs
  have e1 : IntKind.i64.wrap ((bs.length : Int) - p) = bs.length - p := IntWalk.i64_in _ (by omega)
  clear hf hbs
  go_enter Tryz.func12, Tryz.ntmps12
  go_wp2_with fail
  refine (fields_any _ _).mono ?_
  rintro e w1 ⟨rfl, hb1⟩
  rw [HF.out]
  unfold fieldsV encFd
  have hr := blkA hb1 (block_new w (.cells #[.int .u8 0, .int .u8 0, .int .u8 0, .int .u8 0, .int .u8 0, .int .i64 0] 62))
  have hr' : ∀ o : Obj, (w1.alloc o).heap[w.heap.size]? = some (.cells #[.int .u8 0, .int .u8 0, .int .u8 0, .int .u8 0, .int .u8 0, .int .i64 0] 62 (0, 0)) := fun o => block_alloc hr
  have q1 : ∀ o : Obj, (w1.alloc o).there w.heap.size 0 6 := fun o j hj => by
    rw [Nat.zero_add]
    exact ⟨by rw [cell_of_block (hr' o) (Array.getElem?_eq_getElem (by simpa using hj))]; rfl, free_of_block (hr' o)⟩
  have HB1 := hidI (((Below.refl w.heap.size w).alloc (Nat.le_refl _) (.cells #[.int .u8 0, .int .u8 0, .int .u8 0, .int .u8 0, .int .u8 0, .int .i64 0] 62)).alloc (by simp) (.cells #[.int .u8 (at8 bs p), .int .u8 0, .int .u8 0, .int .u8 0, .int .u8 0, .int .i64 0] 62) |>.trans (hb1.mono (by simp; omega)))
  have HR := hidI hr'
  have HO := hidI (blk hb1 (block_new2 w (.cells #[.int .u8 0, .int .u8 0, .int .u8 0, .int .u8 0, .int .u8 0, .int .i64 0] 62) (.cells #[.int .u8 (at8 bs p), .int .u8 0, .int .u8 0, .int .u8 0, .int .u8 0, .int .i64 0] 62)))
  have HBX := hidI (show w.heap.size + 1 < w1.heap.size from by have := hb1.size; simp at this; omega)
  clear hb1 hr
  by_cases hs : bs.length < p + 1
  · exact absurd hs (by omega)
  · have hlt : ¬ ((bs.length : Int) - p < 1) := by omega
    have hcx : ∀ i, i < 1 → ∀ w, (Instr.index 9 (.string (strOf bs)) (.int .i64 ((p + i : Nat) : Int))).run Tryz.prog w = .ok (.int .u8 (at8 bs (p + i))) w := fun i hi w => str_indexN bs (p + i) (by omega) w
    have HCX := hidI hcx
    have hpb := HBS.out
    go_wp2_with fail
    have HP := hidI hpb
    clear hpb
    go_loopw [13, 1] (fun i v w' => ∃ j : Nat, j ≤ 0 ∧ i = .int .i64 (j : Int) ∧ v = .int .i64 ((p + 1 + j : Nat) : Int) ∧ Hid (w'.heap[w.heap.size + 1]? = some (.cells (encOp ⟨at8 bs p, 0, 0, 0, 0, 0⟩).toArray 62 (0, 0))) ∧
      Hid (w'.heap[w1.heap.size + 1]? = some (.cells #[.int .u8 (if 0 < j then at8 bs (p + 1) else 0), .int .u8 (if 1 < j then at8 bs (p + 1 + 1) else 0), .int .u8 (if 2 < j then at8 bs (p + 1 + 2) else 0)] 77 (0, 0))) ∧
      Hid (w'.heap[w1.heap.size]? = some (.cells #[.bool false, .int .i64 0, .bool false] 79 (0, 0))) ∧ Hid (w'.heap[w.heap.size]? = some (.cells #[.int .u8 0, .int .u8 0, .int .u8 0, .int .u8 0, .int .u8 0, .int .i64 0] 62 (0, 0))) ∧ Hid (Below w.heap.size w w')) (fun i _ _ => ((0 : Int) - intOf i).toNat)
    case atStart =>
      refine ⟨0, by omega, rfl, by first | rfl | (congr 1; omega) | congr 1, hidI ?_, hidI ?_, hidI ?_, hidI ?_, hidI ?_⟩
      · exact block_alloc (block_alloc HO.out)
      · rw [block_new2]; rfl
      · exact block_alloc (block_new w1 _)
      · exact block_alloc (HR.out _)
      · exact (HB1.out.alloc HB1.out.size _).alloc (by have := HB1.out.size; simp; omega) _
    case round =>
      obtain ⟨j, hj, rfl, hv, HOP, HRG, HFM, HRS, HBW⟩ := hrel
      obtain ⟨q, hq⟩ : ∃ q, p + 1 + j = q := ⟨_, rfl⟩
      rw [hq] at hv
      subst hv
      have f1 : wr.cell? ⟨w1.heap.size, 1, none⟩ = some (.int .i64 0) := cell_of_block (o := 1) HFM.out rfl
      have hbw := HB1.out.size
      by_cases hjl : j < 0
      · have hqi : ∀ w, (Instr.index 9 (.string (strOf bs)) (.int .i64 (q : Int))).run Tryz.prog w = .ok (.int .u8 (at8 bs q)) w := fun w => str_indexN bs q (by omega) w
        have hqw : IntKind.i64.wrap ((q : Int) + 1) = q + 1 := IntWalk.i64_in _ (by have := HBS.out; omega)
        have hnb : w.heap.size ≤ w1.heap.size := hbw
        exact absurd hjl (by omega)
      · obtain rfl : j = 0 := by omega
        have hrg : wr.heap[w1.heap.size + 1]? = some (.cells #[.int .u8 (0), .int .u8 (0), .int .u8 (0)] 77 (0, 0)) := by simpa using HRG.out
        have l0 := cell_of_block (o := 0) hrg rfl
        have l1 := cell_of_block (o := 1) hrg rfl
        have l2 := cell_of_block (o := 2) hrg rfl
        have o2 : wr.cell? ⟨w.heap.size + 1, 2, none⟩ = some (.int .u8 0) := cell_of_block (o := 2) HOP.out rfl
        have o3 : wr.cell? ⟨w.heap.size + 1, 3, none⟩ = some (.int .u8 0) := cell_of_block (o := 3) HOP.out rfl
        have o4 : wr.cell? ⟨w.heap.size + 1, 4, none⟩ = some (.int .u8 0) := cell_of_block (o := 4) HOP.out rfl
        have of : ∀ i, wr.frozen? ⟨w.heap.size + 1, i, none⟩ = false := fun i => free_of_block (o := i) HOP.out
        have hnn : ¬ w1.heap.size + 1 = w.heap.size + 1 := by have := HBX.out; omega
        clear hrg
        go_wp2_with fail
        go_region_held3 (fun w' => w'.cell? ⟨w1.heap.size + 1, 0, none⟩ = some (.int .u8 (0)) ∧ w'.cell? ⟨w1.heap.size + 1, 1, none⟩ = some (.int .u8 (0)) ∧ w'.cell? ⟨w1.heap.size + 1, 2, none⟩ = some (.int .u8 (0)))
          (refine ⟨?_, ?_, ?_⟩ <;> (simp only [World.cell?_drew]; repeat (refine cell_far ?_ hnn)) <;> assumption) (fail)
        have hset := block_setCell (o := 4) (.int .u8 (0)) (block_setCell (o := 3) (.int .u8 (0)) (block_setCell (o := 2) (.int .u8 (0)) HOP.out))
        have HOQ : Hid ((((wr.setCell ⟨w.heap.size + 1, 2, none⟩ (.int .u8 (0))).setCell ⟨w.heap.size + 1, 3, none⟩ (.int .u8 (0))).setCell ⟨w.heap.size + 1, 4, none⟩ (.int .u8 (0))).drew.heap[w.heap.size + 1]? = some (.cells (encOp ⟨at8 bs p, 0, 0, 0, 0, numP bs (p + 1) 0⟩).toArray 62 (0, 0))) := hidI hset
        have HRS2 : Hid ((((wr.setCell ⟨w.heap.size + 1, 2, none⟩ (.int .u8 (0))).setCell ⟨w.heap.size + 1, 3, none⟩ (.int .u8 (0))).setCell ⟨w.heap.size + 1, 4, none⟩ (.int .u8 (0))).drew.heap[w.heap.size]? = some (.cells #[.int .u8 0, .int .u8 0, .int .u8 0, .int .u8 0, .int .u8 0, .int .i64 0] 62 (0, 0))) := hidI (block_other (a := ⟨w.heap.size + 1, 4, none⟩) (u := .int .u8 (0)) (block_other (a := ⟨w.heap.size + 1, 3, none⟩) (u := .int .u8 (0)) (block_other (a := ⟨w.heap.size + 1, 2, none⟩) (u := .int .u8 (0)) HRS.out (by simp)) (by simp)) (by simp))
        have HBW2 := hidI (Chg.below (S := fun k => k = w.heap.size + 1) HBW.out HBW.out.size (((((Chg.refl (fun k => k = w.heap.size + 1) wr).setCell (p := ⟨w.heap.size + 1, 2, none⟩) (.inl rfl) (.int .u8 (0))).setCell (p := ⟨w.heap.size + 1, 3, none⟩) (.inl rfl) (.int .u8 (0))).setCell (p := ⟨w.heap.size + 1, 4, none⟩) (.inl rfl) (.int .u8 (0))).drew) (fun k hk => by omega))
        clear l0 l1 l2 o2 o3 o4 of hset f1
        generalize (((wr.setCell ⟨w.heap.size + 1, 2, none⟩ (.int .u8 (0))).setCell ⟨w.heap.size + 1, 3, none⟩ (.int .u8 (0))).setCell ⟨w.heap.size + 1, 4, none⟩ (.int .u8 (0))).drew = w5 at HBW2 HOQ HRS2 ⊢
        obtain ⟨wj, rfl⟩ : ∃ x, x = wr := ⟨_, rfl⟩
        have hqe : q = p + 1 := by omega
        subst hqe
        clear hq hj hjl
        go_wp2_with fail
        go_loopw [1] (fun v w' => ∃ t : Nat, t ≤ 0 ∧ v = .int .i64 ((p + 1 + t : Nat) : Int) ∧ Hid (w'.heap[w.heap.size + 1]? = some (.cells (encOp ⟨at8 bs p, 0, 0, 0, 0, numP bs (p + 1) t⟩).toArray 62 (0, 0))) ∧
          Hid (w'.heap[w.heap.size]? = some (.cells #[.int .u8 0, .int .u8 0, .int .u8 0, .int .u8 0, .int .u8 0, .int .i64 0] 62 (0, 0))) ∧ Hid (Below w.heap.size w w')) (fun v _ => ((p + 1 : Int) - intOf v).toNat)
        case atStart => exact ⟨0, by omega, by simp, HOQ, HRS2, HBW2⟩
        case round =>
          obtain ⟨t, ht, hv, HO5, HR5, HB5⟩ := hrel
          obtain ⟨q, hq⟩ : ∃ q, p + 1 + t = q := ⟨_, rfl⟩
          rw [hq] at hv
          subst hv
          by_cases htl : t < 0
          · exact absurd htl (by omega)
          · obtain rfl : t = 0 := by omega
            have hqe : q = p + 1 := by omega
            subst hqe
            have hge : ¬ (((p + 1 : Nat) : Int) < p + 1) := by omega
            obtain ⟨oo, hoo⟩ : ∃ o : OpD, o = ⟨at8 bs p, 0, 0, 0, 0, numP bs (p + 1) 0⟩ := ⟨_, rfl⟩
            have hO := HO5.out
            rw [← hoo] at hO
            have HOO := hidI hO
            have HEQ := hidI hoo
            clear hO hoo hq htl
            have HWO := hidI (show wfOp oo from by rw [HEQ.out]; exact ⟨at8_byte _ _, by first | exact at8_byte _ _ | (simp only; omega), by first | exact at8_byte _ _ | (simp only; omega), by first | exact at8_byte _ _ | (simp only; omega), by first | exact at8_byte _ _ | (simp only; omega), numP_rng _ _ _⟩)
            have k0 : wr.cell? ⟨w.heap.size + 1, 0, none⟩ = some (.int .u8 oo.kind) := cell_of_block (o := 0) HOO.out rfl
            have k1 : wr.cell? ⟨w.heap.size + 1, 1, none⟩ = some (.int .u8 oo.cal) := cell_of_block (o := 1) HOO.out rfl
            have k2 : wr.cell? ⟨w.heap.size + 1, 2, none⟩ = some (.int .u8 oo.a) := cell_of_block (o := 2) HOO.out rfl
            have k3 : wr.cell? ⟨w.heap.size + 1, 3, none⟩ = some (.int .u8 oo.b) := cell_of_block (o := 3) HOO.out rfl
            have k4 : wr.cell? ⟨w.heap.size + 1, 4, none⟩ = some (.int .u8 oo.c) := cell_of_block (o := 4) HOO.out rfl
            have k5 : wr.cell? ⟨w.heap.size + 1, 5, none⟩ = some (.int .i64 oo.n) := cell_of_block (o := 5) HOO.out rfl
            have HR6 := HR5
            have hgg : ¬ w.heap.size + 1 = w.heap.size := by omega
            have HB6 := HB5
            have hpb := HBS.out
            cases hck : checkS oo with
            | true =>
              have HCV := hidI (show codeV (checkS oo) = .int .i64 0 from by rw [hck]; rfl)
              have HCK := hidI hck
              clear hck hpb
              go_wp2_with fail
              go_region_held3 (fun w' => w'.cell? ⟨w.heap.size + 1, 0, none⟩ = some (.int .u8 oo.kind) ∧ w'.cell? ⟨w.heap.size + 1, 1, none⟩ = some (.int .u8 oo.cal) ∧ w'.cell? ⟨w.heap.size + 1, 2, none⟩ = some (.int .u8 oo.a) ∧ w'.cell? ⟨w.heap.size + 1, 3, none⟩ = some (.int .u8 oo.b) ∧ w'.cell? ⟨w.heap.size + 1, 4, none⟩ = some (.int .u8 oo.c) ∧ w'.cell? ⟨w.heap.size + 1, 5, none⟩ = some (.int .i64 oo.n))
                (refine ⟨?_, ?_, ?_, ?_, ?_, ?_⟩ <;> ((try simp only [World.cell?_drew]); repeat (refine cell_far ?_ hgg)) <;> assumption)
                (first | (go_at_call 95; refine (rcheck_any _ oo HWO.out).mono ?_; rintro e6 w6 ⟨he6, hb6⟩; rw [HCV.out] at he6; subst he6; obtain ⟨s0, s1, s2, s3, s4, s5, r0, r1, r2, r3, r4, r5, rf⟩ := one_behind HOO.out HR6.out hb6; have HB7 := hidI hb6; clear hb6))
              all_goals (
                have hr6 := blk (w := wr.drew) HB7.out HR6.out
                have hset := block_setCell (o := 5) (.int .i64 oo.n) (block_setCell (o := 4) (.int .u8 oo.c) (block_setCell (o := 3) (.int .u8 oo.b) (block_setCell (o := 2) (.int .u8 oo.a) (block_setCell (o := 1) (.int .u8 oo.cal) (block_setCell (o := 0) (.int .u8 oo.kind) hr6)))))
                have hv : oneV bs p (at8 bs p) ⟨false, 0, false, fl, fM⟩ = .tuple #[.agg (encOp oo).toArray, .int .i64 ((p : Int) + 1), .bool true] := by
                  have e : opAt bs p (at8 bs p) ⟨false, 0, false, fl, fM⟩ = oo := by rw [HEQ.out]; simp [opAt, numP, num8]
                  have e2 : ((p + 1 + needF ⟨false, 0, false, fl, fM⟩ : Nat) : Int) = (p : Int) + 1 := by first | (simp [needF]; done) | (simp [needF]; omega)
                  unfold oneV
                  rw [if_neg (by simp [needF]; omega), e, HCK.out, e2]
                have HSET := hidI hset
                have HVV := hidI hv
                clear hr6 hset hv s0 s1 s2 s3 s4 s5 r0 r1 r2 r3 r4 r5 rf k0 k1 k2 k3 k4 k5
                go_wp2_with fail
                refine bodyPost_ret (v := .tuple #[.agg (encOp oo).toArray, .int .i64 ((p : Int) + 1), .bool true]) (results_one (o := oo) rfl rfl rfl HSET.out) rfl ⟨by rw [HVV.out], ?_⟩
                have hb7 : Below w.heap.size w w6 := (below_drewN HB6.out 1).trans (HB7.out.mono HB6.out.size)
                have hc7 := ((((((Chg.refl (fun k => k = w.heap.size) w6).setCell (p := ⟨w.heap.size, 0, none⟩) (.inl rfl) (.int .u8 oo.kind)).setCell (p := ⟨w.heap.size, 1, none⟩) (.inl rfl) (.int .u8 oo.cal)).setCell (p := ⟨w.heap.size, 2, none⟩) (.inl rfl) (.int .u8 oo.a)).setCell (p := ⟨w.heap.size, 3, none⟩) (.inl rfl) (.int .u8 oo.b)).setCell (p := ⟨w.heap.size, 4, none⟩) (.inl rfl) (.int .u8 oo.c)).setCell (p := ⟨w.heap.size, 5, none⟩) (.inl rfl) (.int .i64 oo.n)
                exact Chg.below (S := fun k => k = w.heap.size) hb7 hb7.size hc7 (fun k hk => by omega))
            | false =>
              have HCV := hidI (show codeV (checkS oo) = .int .i64 1 from by rw [hck]; rfl)
              have HCK := hidI hck
              clear hck hpb
              go_wp2_with fail
              go_region_held3 (fun w' => w'.cell? ⟨w.heap.size + 1, 0, none⟩ = some (.int .u8 oo.kind) ∧ w'.cell? ⟨w.heap.size + 1, 1, none⟩ = some (.int .u8 oo.cal) ∧ w'.cell? ⟨w.heap.size + 1, 2, none⟩ = some (.int .u8 oo.a) ∧ w'.cell? ⟨w.heap.size + 1, 3, none⟩ = some (.int .u8 oo.b) ∧ w'.cell? ⟨w.heap.size + 1, 4, none⟩ = some (.int .u8 oo.c) ∧ w'.cell? ⟨w.heap.size + 1, 5, none⟩ = some (.int .i64 oo.n))
                (refine ⟨?_, ?_, ?_, ?_, ?_, ?_⟩ <;> ((try simp only [World.cell?_drew]); repeat (refine cell_far ?_ hgg)) <;> assumption)
                (first | (go_at_call 95; refine (rcheck_any _ oo HWO.out).mono ?_; rintro e6 w6 ⟨he6, hb6⟩; rw [HCV.out] at he6; subst he6; obtain ⟨s0, s1, s2, s3, s4, s5, r0, r1, r2, r3, r4, r5, rf⟩ := one_behind HOO.out HR6.out hb6; have HB7 := hidI hb6; clear hb6))
              all_goals (
                have hr6 := blk (w := wr.drew) HB7.out HR6.out
                have hset := block_setCell (o := 5) (.int .i64 oo.n) (block_setCell (o := 4) (.int .u8 oo.c) (block_setCell (o := 3) (.int .u8 oo.b) (block_setCell (o := 2) (.int .u8 oo.a) (block_setCell (o := 1) (.int .u8 oo.cal) (block_setCell (o := 0) (.int .u8 oo.kind) hr6)))))
                have hv : oneV bs p (at8 bs p) ⟨false, 0, false, fl, fM⟩ = .tuple #[.agg (encOp oo).toArray, .int .i64 ((p : Int) + 1), .bool false] := by
                  have e : opAt bs p (at8 bs p) ⟨false, 0, false, fl, fM⟩ = oo := by rw [HEQ.out]; simp [opAt, numP, num8]
                  have e2 : ((p + 1 + needF ⟨false, 0, false, fl, fM⟩ : Nat) : Int) = (p : Int) + 1 := by first | (simp [needF]; done) | (simp [needF]; omega)
                  unfold oneV
                  rw [if_neg (by simp [needF]; omega), e, HCK.out, e2]
                have HSET := hidI hset
                have HVV := hidI hv
                clear hr6 hset hv s0 s1 s2 s3 s4 s5 r0 r1 r2 r3 r4 r5 rf k0 k1 k2 k3 k4 k5
                go_wp2_with fail
                refine bodyPost_ret (v := .tuple #[.agg (encOp oo).toArray, .int .i64 ((p : Int) + 1), .bool false]) (results_one (o := oo) rfl rfl rfl HSET.out) rfl ⟨by rw [HVV.out], ?_⟩
                have hb7 : Below w.heap.size w w6 := (below_drewN HB6.out 1).trans (HB7.out.mono HB6.out.size)
                have hc7 := ((((((Chg.refl (fun k => k = w.heap.size) w6).setCell (p := ⟨w.heap.size, 0, none⟩) (.inl rfl) (.int .u8 oo.kind)).setCell (p := ⟨w.heap.size, 1, none⟩) (.inl rfl) (.int .u8 oo.cal)).setCell (p := ⟨w.heap.size, 2, none⟩) (.inl rfl) (.int .u8 oo.a)).setCell (p := ⟨w.heap.size, 3, none⟩) (.inl rfl) (.int .u8 oo.b)).setCell (p := ⟨w.heap.size, 4, none⟩) (.inl rfl) (.int .u8 oo.c)).setCell (p := ⟨w.heap.size, 5, none⟩) (.inl rfl) (.int .i64 oo.n)
                exact Chg.below (S := fun k => k = w.heap.size) hb7 hb7.size hc7 (fun k hk => by omega))

set_option maxHeartbeats 2000000 in
theorem one_010 (w : World) (bs : List UInt8) (p : Nat) (hp : p < bs.length) (hbs : bs.length ≤ 9223372036854775807) (fl fM : Int) (hf : formS (at8 bs p) = some ⟨false, 1, false, fl, fM⟩) :
    Calls Tryz.prog 12 #[.string (strOf bs), .int .i64 (p : Int)] w fun e w' => e = .returned (oneV bs p (at8 bs p) ⟨false, 1, false, fl, fM⟩) ∧ Below w.heap.size w w' := by
  have hix := fun w => str_indexN bs p hp w
  have HF := hidI hf
  have HBS := hidI hbs
  have hsz := strOf_size bs
  have e1 : IntKind.i64.wrap ((bs.length : Int) - p) = bs.length - p := IntWalk.i64_in _ (by omega)
  clear hf hbs
  go_enter Tryz.func12, Tryz.ntmps12
  go_wp2_with fail
  refine (fields_any _ _).mono ?_
  rintro e w1 ⟨rfl, hb1⟩
  rw [HF.out]
  unfold fieldsV encFd
  have hr := blkA hb1 (block_new w (.cells #[.int .u8 0, .int .u8 0, .int .u8 0, .int .u8 0, .int .u8 0, .int .i64 0] 62))
  have hr' : ∀ o : Obj, (w1.alloc o).heap[w.heap.size]? = some (.cells #[.int .u8 0, .int .u8 0, .int .u8 0, .int .u8 0, .int .u8 0, .int .i64 0] 62 (0, 0)) := fun o => block_alloc hr
  have q1 : ∀ o : Obj, (w1.alloc o).there w.heap.size 0 6 := fun o j hj => by
    rw [Nat.zero_add]
    exact ⟨by rw [cell_of_block (hr' o) (Array.getElem?_eq_getElem (by simpa using hj))]; rfl, free_of_block (hr' o)⟩
  have HB1 := hidI (((Below.refl w.heap.size w).alloc (Nat.le_refl _) (.cells #[.int .u8 0, .int .u8 0, .int .u8 0, .int .u8 0, .int .u8 0, .int .i64 0] 62)).alloc (by simp) (.cells #[.int .u8 (at8 bs p), .int .u8 0, .int .u8 0, .int .u8 0, .int .u8 0, .int .i64 0] 62) |>.trans (hb1.mono (by simp; omega)))
  have HR := hidI hr'
  have HO := hidI (blk hb1 (block_new2 w (.cells #[.int .u8 0, .int .u8 0, .int .u8 0, .int .u8 0, .int .u8 0, .int .i64 0] 62) (.cells #[.int .u8 (at8 bs p), .int .u8 0, .int .u8 0, .int .u8 0, .int .u8 0, .int .i64 0] 62)))
  have HBX := hidI (show w.heap.size + 1 < w1.heap.size from by have := hb1.size; simp at this; omega)
  clear hb1 hr
  by_cases hs : bs.length < p + 2
  · have hlt : (bs.length : Int) - p < 2 := by omega
    go_wp2_with (refine wpList_store_mid rfl 62 _ _ rfl w.heap.size 0 (encOp zeroOp).toArray rfl rfl (q1 _) opInfo6 (op_one zeroOp) ?_)
    refine bodyPost_ret (v := noOne) (results_one (o := zeroOp) rfl rfl rfl (setCells_whole (HR.out _) rfl)) rfl ⟨?_, below_setCells (Nat.le_refl _) (Nat.le_refl _) _ _ (HB1.out.alloc HB1.out.size _)⟩
    unfold oneV
    rw [if_pos (by simp [needF]; omega)]
  · have hlt : ¬ ((bs.length : Int) - p < 2) := by omega
    have hcx : ∀ i, i < 2 → ∀ w, (Instr.index 9 (.string (strOf bs)) (.int .i64 ((p + i : Nat) : Int))).run Tryz.prog w = .ok (.int .u8 (at8 bs (p + i))) w := fun i hi w => str_indexN bs (p + i) (by omega) w
    have HCX := hidI hcx
    have hpb := HBS.out
    go_wp2_with fail
    have HP := hidI hpb
    clear hpb
    go_loopw [13, 1] (fun i v w' => ∃ j : Nat, j ≤ 1 ∧ i = .int .i64 (j : Int) ∧ v = .int .i64 ((p + 1 + j : Nat) : Int) ∧ Hid (w'.heap[w.heap.size + 1]? = some (.cells (encOp ⟨at8 bs p, 0, 0, 0, 0, 0⟩).toArray 62 (0, 0))) ∧
      Hid (w'.heap[w1.heap.size + 1]? = some (.cells #[.int .u8 (if 0 < j then at8 bs (p + 1) else 0), .int .u8 (if 1 < j then at8 bs (p + 1 + 1) else 0), .int .u8 (if 2 < j then at8 bs (p + 1 + 2) else 0)] 77 (0, 0))) ∧
      Hid (w'.heap[w1.heap.size]? = some (.cells #[.bool false, .int .i64 1, .bool false] 79 (0, 0))) ∧ Hid (w'.heap[w.heap.size]? = some (.cells #[.int .u8 0, .int .u8 0, .int .u8 0, .int .u8 0, .int .u8 0, .int .i64 0] 62 (0, 0))) ∧ Hid (Below w.heap.size w w')) (fun i _ _ => ((1 : Int) - intOf i).toNat)
    case atStart =>
      refine ⟨0, by omega, rfl, by first | rfl | (congr 1; omega) | congr 1, hidI ?_, hidI ?_, hidI ?_, hidI ?_, hidI ?_⟩
      · exact block_alloc (block_alloc HO.out)
      · rw [block_new2]; rfl
      · exact block_alloc (block_new w1 _)
      · exact block_alloc (HR.out _)
      · exact (HB1.out.alloc HB1.out.size _).alloc (by have := HB1.out.size; simp; omega) _
    case round =>
      obtain ⟨j, hj, rfl, hv, HOP, HRG, HFM, HRS, HBW⟩ := hrel
      obtain ⟨q, hq⟩ : ∃ q, p + 1 + j = q := ⟨_, rfl⟩
      rw [hq] at hv
      subst hv
      have f1 : wr.cell? ⟨w1.heap.size, 1, none⟩ = some (.int .i64 1) := cell_of_block (o := 1) HFM.out rfl
      have hbw := HB1.out.size
      by_cases hjl : j < 1
      · have hqi : ∀ w, (Instr.index 9 (.string (strOf bs)) (.int .i64 (q : Int))).run Tryz.prog w = .ok (.int .u8 (at8 bs q)) w := fun w => str_indexN bs q (by omega) w
        have hqw : IntKind.i64.wrap ((q : Int) + 1) = q + 1 := IntWalk.i64_in _ (by have := HBS.out; omega)
        have hnb : w.heap.size ≤ w1.heap.size := hbw
        rcases (by omega : j = 0) with rfl
        · have hrg : wr.heap[w1.heap.size + 1]? = some (.cells #[.int .u8 (0), .int .u8 (0), .int .u8 (0)] 77 (0, 0)) := by simpa using HRG.out
          have g1 := cell_of_block (o := 0) hrg rfl
          have g2 := free_of_block (o := 0) hrg
          have HRG2 := hidI (block_setCell (o := 0) (.int .u8 (at8 bs q)) hrg)
          clear hrg
          go_wp2_with fail
          refine ⟨⟨0 + 1, by omega, by go_num, by congr 1; omega, hidI ?_, hidI ?_, hidI ?_, hidI ?_, hidI ?_⟩, by simp [intOf]⟩
          · rw [Below.heap_setCell _ _ _ _ (by show w.heap.size + 1 ≠ w1.heap.size + 1; have := HBX.out; omega)]; exact HOP.out
          · rw [HRG2.out, ← hq]; rfl
          · rw [Below.heap_setCell _ _ _ _ (by show w1.heap.size ≠ w1.heap.size + 1; omega)]; exact HFM.out
          · rw [Below.heap_setCell _ _ _ _ (by show w.heap.size ≠ w1.heap.size + 1; omega)]; exact HRS.out
          · exact Chg.below (S := fun k => k = w1.heap.size + 1) HBW.out HBW.out.size ((Chg.refl (fun k => k = w1.heap.size + 1) wr).setCell (p := ⟨w1.heap.size + 1, 0, none⟩) (.inl rfl) _) (fun k hk => by omega)
      · obtain rfl : j = 1 := by omega
        have hrg : wr.heap[w1.heap.size + 1]? = some (.cells #[.int .u8 (at8 bs (p + 1)), .int .u8 (0), .int .u8 (0)] 77 (0, 0)) := by simpa using HRG.out
        have l0 := cell_of_block (o := 0) hrg rfl
        have l1 := cell_of_block (o := 1) hrg rfl
        have l2 := cell_of_block (o := 2) hrg rfl
        have o2 : wr.cell? ⟨w.heap.size + 1, 2, none⟩ = some (.int .u8 0) := cell_of_block (o := 2) HOP.out rfl
        have o3 : wr.cell? ⟨w.heap.size + 1, 3, none⟩ = some (.int .u8 0) := cell_of_block (o := 3) HOP.out rfl
        have o4 : wr.cell? ⟨w.heap.size + 1, 4, none⟩ = some (.int .u8 0) := cell_of_block (o := 4) HOP.out rfl
        have of : ∀ i, wr.frozen? ⟨w.heap.size + 1, i, none⟩ = false := fun i => free_of_block (o := i) HOP.out
        have hnn : ¬ w1.heap.size + 1 = w.heap.size + 1 := by have := HBX.out; omega
        clear hrg
        go_wp2_with fail
        go_region_held3 (fun w' => w'.cell? ⟨w1.heap.size + 1, 0, none⟩ = some (.int .u8 (at8 bs (p + 1))) ∧ w'.cell? ⟨w1.heap.size + 1, 1, none⟩ = some (.int .u8 (0)) ∧ w'.cell? ⟨w1.heap.size + 1, 2, none⟩ = some (.int .u8 (0)))
          (refine ⟨?_, ?_, ?_⟩ <;> (simp only [World.cell?_drew]; repeat (refine cell_far ?_ hnn)) <;> assumption) (fail)
        have hset := block_setCell (o := 4) (.int .u8 (0)) (block_setCell (o := 3) (.int .u8 (0)) (block_setCell (o := 2) (.int .u8 (at8 bs (p + 1))) HOP.out))
        have HOQ : Hid ((((wr.setCell ⟨w.heap.size + 1, 2, none⟩ (.int .u8 (at8 bs (p + 1)))).setCell ⟨w.heap.size + 1, 3, none⟩ (.int .u8 (0))).setCell ⟨w.heap.size + 1, 4, none⟩ (.int .u8 (0))).drew.heap[w.heap.size + 1]? = some (.cells (encOp ⟨at8 bs p, 0, at8 bs (p + 1), 0, 0, numP bs (p + 2) 0⟩).toArray 62 (0, 0))) := hidI hset
        have HRS2 : Hid ((((wr.setCell ⟨w.heap.size + 1, 2, none⟩ (.int .u8 (at8 bs (p + 1)))).setCell ⟨w.heap.size + 1, 3, none⟩ (.int .u8 (0))).setCell ⟨w.heap.size + 1, 4, none⟩ (.int .u8 (0))).drew.heap[w.heap.size]? = some (.cells #[.int .u8 0, .int .u8 0, .int .u8 0, .int .u8 0, .int .u8 0, .int .i64 0] 62 (0, 0))) := hidI (block_other (a := ⟨w.heap.size + 1, 4, none⟩) (u := .int .u8 (0)) (block_other (a := ⟨w.heap.size + 1, 3, none⟩) (u := .int .u8 (0)) (block_other (a := ⟨w.heap.size + 1, 2, none⟩) (u := .int .u8 (at8 bs (p + 1))) HRS.out (by simp)) (by simp)) (by simp))
        have HBW2 := hidI (Chg.below (S := fun k => k = w.heap.size + 1) HBW.out HBW.out.size (((((Chg.refl (fun k => k = w.heap.size + 1) wr).setCell (p := ⟨w.heap.size + 1, 2, none⟩) (.inl rfl) (.int .u8 (at8 bs (p + 1)))).setCell (p := ⟨w.heap.size + 1, 3, none⟩) (.inl rfl) (.int .u8 (0))).setCell (p := ⟨w.heap.size + 1, 4, none⟩) (.inl rfl) (.int .u8 (0))).drew) (fun k hk => by omega))
        clear l0 l1 l2 o2 o3 o4 of hset f1
        generalize (((wr.setCell ⟨w.heap.size + 1, 2, none⟩ (.int .u8 (at8 bs (p + 1)))).setCell ⟨w.heap.size + 1, 3, none⟩ (.int .u8 (0))).setCell ⟨w.heap.size + 1, 4, none⟩ (.int .u8 (0))).drew = w5 at HBW2 HOQ HRS2 ⊢
        obtain ⟨wj, rfl⟩ : ∃ x, x = wr := ⟨_, rfl⟩
        have hqe : q = p + 2 := by omega
        subst hqe
        clear hq hj hjl
        go_wp2_with fail
        go_loopw [1] (fun v w' => ∃ t : Nat, t ≤ 0 ∧ v = .int .i64 ((p + 2 + t : Nat) : Int) ∧ Hid (w'.heap[w.heap.size + 1]? = some (.cells (encOp ⟨at8 bs p, 0, at8 bs (p + 1), 0, 0, numP bs (p + 2) t⟩).toArray 62 (0, 0))) ∧
          Hid (w'.heap[w.heap.size]? = some (.cells #[.int .u8 0, .int .u8 0, .int .u8 0, .int .u8 0, .int .u8 0, .int .i64 0] 62 (0, 0))) ∧ Hid (Below w.heap.size w w')) (fun v _ => ((p + 2 : Int) - intOf v).toNat)
        case atStart => exact ⟨0, by omega, by simp, HOQ, HRS2, HBW2⟩
        case round =>
          obtain ⟨t, ht, hv, HO5, HR5, HB5⟩ := hrel
          obtain ⟨q, hq⟩ : ∃ q, p + 2 + t = q := ⟨_, rfl⟩
          rw [hq] at hv
          subst hv
          by_cases htl : t < 0
          · exact absurd htl (by omega)
          · obtain rfl : t = 0 := by omega
            have hqe : q = p + 2 := by omega
            subst hqe
            have hge : ¬ (((p + 2 : Nat) : Int) < p + 2) := by omega
            obtain ⟨oo, hoo⟩ : ∃ o : OpD, o = ⟨at8 bs p, 0, at8 bs (p + 1), 0, 0, numP bs (p + 2) 0⟩ := ⟨_, rfl⟩
            have hO := HO5.out
            rw [← hoo] at hO
            have HOO := hidI hO
            have HEQ := hidI hoo
            clear hO hoo hq htl
            have HWO := hidI (show wfOp oo from by rw [HEQ.out]; exact ⟨at8_byte _ _, by first | exact at8_byte _ _ | (simp only; omega), by first | exact at8_byte _ _ | (simp only; omega), by first | exact at8_byte _ _ | (simp only; omega), by first | exact at8_byte _ _ | (simp only; omega), numP_rng _ _ _⟩)
            have k0 : wr.cell? ⟨w.heap.size + 1, 0, none⟩ = some (.int .u8 oo.kind) := cell_of_block (o := 0) HOO.out rfl
            have k1 : wr.cell? ⟨w.heap.size + 1, 1, none⟩ = some (.int .u8 oo.cal) := cell_of_block (o := 1) HOO.out rfl
            have k2 : wr.cell? ⟨w.heap.size + 1, 2, none⟩ = some (.int .u8 oo.a) := cell_of_block (o := 2) HOO.out rfl
            have k3 : wr.cell? ⟨w.heap.size + 1, 3, none⟩ = some (.int .u8 oo.b) := cell_of_block (o := 3) HOO.out rfl
            have k4 : wr.cell? ⟨w.heap.size + 1, 4, none⟩ = some (.int .u8 oo.c) := cell_of_block (o := 4) HOO.out rfl
            have k5 : wr.cell? ⟨w.heap.size + 1, 5, none⟩ = some (.int .i64 oo.n) := cell_of_block (o := 5) HOO.out rfl
            have HR6 := HR5
            have hgg : ¬ w.heap.size + 1 = w.heap.size := by omega
            have HB6 := HB5
            have hpb := HBS.out
            cases hck : checkS oo with
            | true =>
              have HCV := hidI (show codeV (checkS oo) = .int .i64 0 from by rw [hck]; rfl)
              have HCK := hidI hck
              clear hck hpb
              go_wp2_with fail
              go_region_held3 (fun w' => w'.cell? ⟨w.heap.size + 1, 0, none⟩ = some (.int .u8 oo.kind) ∧ w'.cell? ⟨w.heap.size + 1, 1, none⟩ = some (.int .u8 oo.cal) ∧ w'.cell? ⟨w.heap.size + 1, 2, none⟩ = some (.int .u8 oo.a) ∧ w'.cell? ⟨w.heap.size + 1, 3, none⟩ = some (.int .u8 oo.b) ∧ w'.cell? ⟨w.heap.size + 1, 4, none⟩ = some (.int .u8 oo.c) ∧ w'.cell? ⟨w.heap.size + 1, 5, none⟩ = some (.int .i64 oo.n))
                (refine ⟨?_, ?_, ?_, ?_, ?_, ?_⟩ <;> ((try simp only [World.cell?_drew]); repeat (refine cell_far ?_ hgg)) <;> assumption)
                (first | (go_at_call 95; refine (rcheck_any _ oo HWO.out).mono ?_; rintro e6 w6 ⟨he6, hb6⟩; rw [HCV.out] at he6; subst he6; obtain ⟨s0, s1, s2, s3, s4, s5, r0, r1, r2, r3, r4, r5, rf⟩ := one_behind HOO.out HR6.out hb6; have HB7 := hidI hb6; clear hb6))
              all_goals (
                have hr6 := blk (w := wr.drew) HB7.out HR6.out
                have hset := block_setCell (o := 5) (.int .i64 oo.n) (block_setCell (o := 4) (.int .u8 oo.c) (block_setCell (o := 3) (.int .u8 oo.b) (block_setCell (o := 2) (.int .u8 oo.a) (block_setCell (o := 1) (.int .u8 oo.cal) (block_setCell (o := 0) (.int .u8 oo.kind) hr6)))))
                have hv : oneV bs p (at8 bs p) ⟨false, 1, false, fl, fM⟩ = .tuple #[.agg (encOp oo).toArray, .int .i64 ((p : Int) + 2), .bool true] := by
                  have e : opAt bs p (at8 bs p) ⟨false, 1, false, fl, fM⟩ = oo := by rw [HEQ.out]; simp [opAt, numP, num8]
                  have e2 : ((p + 1 + needF ⟨false, 1, false, fl, fM⟩ : Nat) : Int) = (p : Int) + 2 := by first | (simp [needF]; done) | (simp [needF]; omega)
                  unfold oneV
                  rw [if_neg (by simp [needF]; omega), e, HCK.out, e2]
                have HSET := hidI hset
                have HVV := hidI hv
                clear hr6 hset hv s0 s1 s2 s3 s4 s5 r0 r1 r2 r3 r4 r5 rf k0 k1 k2 k3 k4 k5
                go_wp2_with fail
                refine bodyPost_ret (v := .tuple #[.agg (encOp oo).toArray, .int .i64 ((p : Int) + 2), .bool true]) (results_one (o := oo) rfl rfl rfl HSET.out) rfl ⟨by rw [HVV.out], ?_⟩
                have hb7 : Below w.heap.size w w6 := (below_drewN HB6.out 1).trans (HB7.out.mono HB6.out.size)
                have hc7 := ((((((Chg.refl (fun k => k = w.heap.size) w6).setCell (p := ⟨w.heap.size, 0, none⟩) (.inl rfl) (.int .u8 oo.kind)).setCell (p := ⟨w.heap.size, 1, none⟩) (.inl rfl) (.int .u8 oo.cal)).setCell (p := ⟨w.heap.size, 2, none⟩) (.inl rfl) (.int .u8 oo.a)).setCell (p := ⟨w.heap.size, 3, none⟩) (.inl rfl) (.int .u8 oo.b)).setCell (p := ⟨w.heap.size, 4, none⟩) (.inl rfl) (.int .u8 oo.c)).setCell (p := ⟨w.heap.size, 5, none⟩) (.inl rfl) (.int .i64 oo.n)
                exact Chg.below (S := fun k => k = w.heap.size) hb7 hb7.size hc7 (fun k hk => by omega))
            | false =>
              have HCV := hidI (show codeV (checkS oo) = .int .i64 1 from by rw [hck]; rfl)
              have HCK := hidI hck
              clear hck hpb
              go_wp2_with fail
              go_region_held3 (fun w' => w'.cell? ⟨w.heap.size + 1, 0, none⟩ = some (.int .u8 oo.kind) ∧ w'.cell? ⟨w.heap.size + 1, 1, none⟩ = some (.int .u8 oo.cal) ∧ w'.cell? ⟨w.heap.size + 1, 2, none⟩ = some (.int .u8 oo.a) ∧ w'.cell? ⟨w.heap.size + 1, 3, none⟩ = some (.int .u8 oo.b) ∧ w'.cell? ⟨w.heap.size + 1, 4, none⟩ = some (.int .u8 oo.c) ∧ w'.cell? ⟨w.heap.size + 1, 5, none⟩ = some (.int .i64 oo.n))
                (refine ⟨?_, ?_, ?_, ?_, ?_, ?_⟩ <;> ((try simp only [World.cell?_drew]); repeat (refine cell_far ?_ hgg)) <;> assumption)
                (first | (go_at_call 95; refine (rcheck_any _ oo HWO.out).mono ?_; rintro e6 w6 ⟨he6, hb6⟩; rw [HCV.out] at he6; subst he6; obtain ⟨s0, s1, s2, s3, s4, s5, r0, r1, r2, r3, r4, r5, rf⟩ := one_behind HOO.out HR6.out hb6; have HB7 := hidI hb6; clear hb6))
              all_goals (
                have hr6 := blk (w := wr.drew) HB7.out HR6.out
                have hset := block_setCell (o := 5) (.int .i64 oo.n) (block_setCell (o := 4) (.int .u8 oo.c) (block_setCell (o := 3) (.int .u8 oo.b) (block_setCell (o := 2) (.int .u8 oo.a) (block_setCell (o := 1) (.int .u8 oo.cal) (block_setCell (o := 0) (.int .u8 oo.kind) hr6)))))
                have hv : oneV bs p (at8 bs p) ⟨false, 1, false, fl, fM⟩ = .tuple #[.agg (encOp oo).toArray, .int .i64 ((p : Int) + 2), .bool false] := by
                  have e : opAt bs p (at8 bs p) ⟨false, 1, false, fl, fM⟩ = oo := by rw [HEQ.out]; simp [opAt, numP, num8]
                  have e2 : ((p + 1 + needF ⟨false, 1, false, fl, fM⟩ : Nat) : Int) = (p : Int) + 2 := by first | (simp [needF]; done) | (simp [needF]; omega)
                  unfold oneV
                  rw [if_neg (by simp [needF]; omega), e, HCK.out, e2]
                have HSET := hidI hset
                have HVV := hidI hv
                clear hr6 hset hv s0 s1 s2 s3 s4 s5 r0 r1 r2 r3 r4 r5 rf k0 k1 k2 k3 k4 k5
                go_wp2_with fail
                refine bodyPost_ret (v := .tuple #[.agg (encOp oo).toArray, .int .i64 ((p : Int) + 2), .bool false]) (results_one (o := oo) rfl rfl rfl HSET.out) rfl ⟨by rw [HVV.out], ?_⟩
                have hb7 : Below w.heap.size w w6 := (below_drewN HB6.out 1).trans (HB7.out.mono HB6.out.size)
                have hc7 := ((((((Chg.refl (fun k => k = w.heap.size) w6).setCell (p := ⟨w.heap.size, 0, none⟩) (.inl rfl) (.int .u8 oo.kind)).setCell (p := ⟨w.heap.size, 1, none⟩) (.inl rfl) (.int .u8 oo.cal)).setCell (p := ⟨w.heap.size, 2, none⟩) (.inl rfl) (.int .u8 oo.a)).setCell (p := ⟨w.heap.size, 3, none⟩) (.inl rfl) (.int .u8 oo.b)).setCell (p := ⟨w.heap.size, 4, none⟩) (.inl rfl) (.int .u8 oo.c)).setCell (p := ⟨w.heap.size, 5, none⟩) (.inl rfl) (.int .i64 oo.n)
                exact Chg.below (S := fun k => k = w.heap.size) hb7 hb7.size hc7 (fun k hk => by omega))

end Go.Proofs.YtbfghkhfiflibaaGreatDoor

/- Part of the proof: EmB -/
import Derived.Test.YtgodmogkhgilmaaGreatDoorP06
namespace Go.Proofs.YtgodmogkhgilmaaGreatDoor
open Go.RowKit Go.Maps
set_option linter.unusedVariables false
set_option linter.unusedSimpArgs false
set_option maxHeartbeats 1000000
set_option maxRecDepth 100000
variable {w w' w1 w2 : World} {own own1 own2 : Nat → Prop} {bc k : Nat} {c : Cd}
def Cd.set (c : Cd) (r n : Int) : Cd := c.put ⟨1, 0, r, 0, 0, n⟩
theorem emset_any (h : CdAt w own bc c k) (r n : Int) :
    Calls Tryz.prog 178 #[.pointer (some ⟨bc, 0, none⟩), .int .u8 r, .int .i64 n] w (EmC own w bc c (c.set r n) k (.tuple #[])) := by
  have H := hidI h
  clear h
  go_enter Tryz.func178, Tryz.ntmps178
  go_wp2_with fail
  refine (put_any H.out ⟨1, 0, r, 0, 0, n⟩).mono ?_
  rintro e w1 ⟨rfl, own1, r1, r2, r3⟩
  go_wp2_with fail
  go_end0
  exact ⟨rfl, own1, r1, r2, r3⟩
def Cd.move (c : Cd) (a b : Int) : Cd := c.put ⟨2, 0, a, b, 0, 0⟩
theorem emmove_any (h : CdAt w own bc c k) (a b : Int) :
    Calls Tryz.prog 210 #[.pointer (some ⟨bc, 0, none⟩), .int .u8 a, .int .u8 b] w (EmC own w bc c (c.move a b) k (.tuple #[])) := by
  have H := hidI h
  clear h
  go_enter Tryz.func210, Tryz.ntmps210
  go_wp2_with fail
  refine (put_any H.out ⟨2, 0, a, b, 0, 0⟩).mono ?_
  rintro e w1 ⟨rfl, own1, r1, r2, r3⟩
  go_wp2_with fail
  go_end0
  exact ⟨rfl, own1, r1, r2, r3⟩
def Cd.calc (c : Cd) (q a b : Int) : Cd := c.put ⟨3, q, a, b, 0, 0⟩
theorem emcalc_any (h : CdAt w own bc c k) (q a b : Int) :
    Calls Tryz.prog 205 #[.pointer (some ⟨bc, 0, none⟩), .int .u8 q, .int .u8 a, .int .u8 b] w (EmC own w bc c (c.calc q a b) k (.tuple #[])) := by
  have H := hidI h
  clear h
  go_enter Tryz.func205, Tryz.ntmps205
  go_wp2_with fail
  refine (put_any H.out ⟨3, q, a, b, 0, 0⟩).mono ?_
  rintro e w1 ⟨rfl, own1, r1, r2, r3⟩
  go_wp2_with fail
  go_end0
  exact ⟨rfl, own1, r1, r2, r3⟩
def Cd.load (c : Cd) (a b n : Int) : Cd := c.put ⟨4, 0, a, b, 0, n⟩
theorem emload_any (h : CdAt w own bc c k) (a b n : Int) :
    Calls Tryz.prog 186 #[.pointer (some ⟨bc, 0, none⟩), .int .u8 a, .int .u8 b, .int .i64 n] w (EmC own w bc c (c.load a b n) k (.tuple #[])) := by
  have H := hidI h
  clear h
  go_enter Tryz.func186, Tryz.ntmps186
  go_wp2_with fail
  refine (put_any H.out ⟨4, 0, a, b, 0, n⟩).mono ?_
  rintro e w1 ⟨rfl, own1, r1, r2, r3⟩
  go_wp2_with fail
  go_end0
  exact ⟨rfl, own1, r1, r2, r3⟩
def Cd.store (c : Cd) (a n b : Int) : Cd := c.put ⟨5, 0, a, b, 0, n⟩
theorem emstore_any (h : CdAt w own bc c k) (a n b : Int) :
    Calls Tryz.prog 183 #[.pointer (some ⟨bc, 0, none⟩), .int .u8 a, .int .i64 n, .int .u8 b] w (EmC own w bc c (c.store a n b) k (.tuple #[])) := by
  have H := hidI h
  clear h
  go_enter Tryz.func183, Tryz.ntmps183
  go_wp2_with fail
  refine (put_any H.out ⟨5, 0, a, b, 0, n⟩).mono ?_
  rintro e w1 ⟨rfl, own1, r1, r2, r3⟩
  go_wp2_with fail
  go_end0
  exact ⟨rfl, own1, r1, r2, r3⟩
def Cd.note (c : Cd) (k0 a b : Int) : Cd := c.put ⟨12, 0, a, b, 0, k0⟩
theorem emnote_any (h : CdAt w own bc c k) (k0 a b : Int) (hk : 0 ≤ k0 ∧ k0 < 256) :
    Calls Tryz.prog 214 #[.pointer (some ⟨bc, 0, none⟩), .int .u8 k0, .int .u8 a, .int .u8 b] w (EmC own w bc c (c.note k0 a b) k (.tuple #[])) := by
  have H := hidI h
  have e1 : IntKind.i64.wrap k0 = k0 := IntWalk.i64_in _ (by omega)
  clear h
  go_enter Tryz.func214, Tryz.ntmps214
  go_wp2_with fail
  refine (put_any H.out ⟨12, 0, a, b, 0, k0⟩).mono ?_
  rintro e w1 ⟨rfl, own1, r1, r2, r3⟩
  go_wp2_with fail
  go_end0
  exact ⟨rfl, own1, r1, r2, r3⟩
def Cd.trap (c : Cd) (k0 : Int) : Cd := c.put ⟨13, 0, 0, 0, 0, k0⟩
theorem emtrap_any (h : CdAt w own bc c k) (k0 : Int) (hk : 0 ≤ k0 ∧ k0 < 256) :
    Calls Tryz.prog 212 #[.pointer (some ⟨bc, 0, none⟩), .int .u8 k0] w (EmC own w bc c (c.trap k0) k (.tuple #[])) := by
  have H := hidI h
  have e1 : IntKind.i64.wrap k0 = k0 := IntWalk.i64_in _ (by omega)
  clear h
  go_enter Tryz.func212, Tryz.ntmps212
  go_wp2_with fail
  refine (put_any H.out ⟨13, 0, 0, 0, 0, k0⟩).mono ?_
  rintro e w1 ⟨rfl, own1, r1, r2, r3⟩
  go_wp2_with fail
  go_end0
  exact ⟨rfl, own1, r1, r2, r3⟩
def Cd.out (c : Cd) (r : Int) : Cd := c.put ⟨11, 0, r, 0, 0, 0⟩
theorem emout_any (h : CdAt w own bc c k) (r : Int) :
    Calls Tryz.prog 187 #[.pointer (some ⟨bc, 0, none⟩), .int .u8 r] w (EmC own w bc c (c.out r) k (.tuple #[])) := by
  have H := hidI h
  clear h
  go_enter Tryz.func187, Tryz.ntmps187
  go_wp2_with fail
  refine (put_any H.out ⟨11, 0, r, 0, 0, 0⟩).mono ?_
  rintro e w1 ⟨rfl, own1, r1, r2, r3⟩
  go_wp2_with fail
  go_end0
  exact ⟨rfl, own1, r1, r2, r3⟩
def Cd.halt (c : Cd) : Cd := c.put ⟨14, 0, 0, 0, 0, 0⟩
theorem emhalt_any (h : CdAt w own bc c k) :
    Calls Tryz.prog 120 #[.pointer (some ⟨bc, 0, none⟩)] w (EmC own w bc c (c.halt) k (.tuple #[])) := by
  have H := hidI h
  clear h
  go_enter Tryz.func120, Tryz.ntmps120
  go_wp2_with fail
  refine (put_any H.out ⟨14, 0, 0, 0, 0, 0⟩).mono ?_
  rintro e w1 ⟨rfl, own1, r1, r2, r3⟩
  go_wp2_with fail
  go_end0
  exact ⟨rfl, own1, r1, r2, r3⟩
def Cd.with_ (c : Cd) (q a n r : Int) : Cd := (c.set r n).calc q a r
theorem emwith_any (h : CdAt w own bc c k) (q a n r : Int) :
    Calls Tryz.prog 206 #[.pointer (some ⟨bc, 0, none⟩), .int .u8 q, .int .u8 a, .int .i64 n, .int .u8 r] w (EmC own w bc c (c.with_ q a n r) k (.tuple #[])) := by
  have H := hidI h
  clear h
  go_enter Tryz.func206, Tryz.ntmps206
  go_wp2_with fail
  refine (emset_any H.out r n).mono ?_
  rintro e w1 ⟨rfl, own1, r1, r2, r3⟩
  have HR1 := hidI r1
  have HR2 := hidI r2
  have HR3 := hidI r3
  clear r1 r2 r3
  go_wp2_with fail
  refine (emcalc_any HR1.out q a r).mono ?_
  rintro e w2 ⟨rfl, own2, r1, r2, r3⟩
  go_wp2_with fail
  go_end0
  exact ⟨rfl, own2, r1, HR2.out.trans r2, Nat.le_trans HR3.out r3⟩
structure TxC where
  words : Int
  size : Int
  frame : Int
  log : Int
  prints : Int
  arena : Int
  en : Int
  base : Int
  th : Int
  sum : Int
def encRow (bc : Nat) (tv : Value) (t : TxC) : Array Value :=
  #[.pointer (some ⟨bc, 0, none⟩), .int .i64 t.words, tv, .int .i64 t.size, .int .i64 t.frame, .int .i64 t.log, .int .i64 t.prints, .int .i64 t.arena, .int .i64 t.en, .int .i64 t.base, .int .i64 t.th, .int .i64 t.sum]
structure TxOk (t : TxC) : Prop where
  words : 0 ≤ t.words ∧ t.words ≤ 262144
  log : 0 ≤ t.log ∧ t.log ≤ 262144
  prints : 0 ≤ t.prints ∧ t.prints ≤ 262144
  arena : 0 ≤ t.arena ∧ t.arena ≤ 262144
  base : 0 ≤ t.base ∧ t.base ≤ 262144
  th : 0 ≤ t.th ∧ t.th ≤ 4
  sum : 0 ≤ t.sum ∧ t.sum ≤ 262144
structure TxAt (w : World) (own : Nat → Prop) (br bc : Nat) (tv : Value) (t : TxC) (c : Cd) (k : Nat) : Prop where
  code : CdAt w own bc c k
  row : Keep w own br (.cells (encRow bc tv t) 123 (0, 0))
variable {br : Nat} {tv : Value} {t : TxC}
theorem TxAt.next (h : TxAt w own br bc tv t c k) {c' : Cd} {k' : Nat} (hc : CdAt w1 own1 bc c' k') (ht : Turn own w own1 w1) : TxAt w1 own1 br bc tv t c' k' := ⟨hc, h.row.turn ht⟩
theorem TxAt.drew (h : TxAt w own br bc tv t c k) : TxAt w.drew own br bc tv t c k := ⟨h.code.drew, h.row.drew⟩
theorem TxAt.alloc (h : TxAt w own br bc tv t c k) (o : Obj) : TxAt (w.alloc o) own br bc tv t c k := ⟨h.code.alloc o, h.row.alloc o⟩
theorem TxAt.below (h : TxAt w own br bc tv t c k) (hb : Below w.heap.size w w') : TxAt w' own br bc tv t c k := ⟨h.code.below hb, h.row.below hb⟩
theorem TxAt.more (h : TxAt w own br bc tv t c k) {k' : Nat} (hk : k ≤ k') : TxAt w own br bc tv t c k' := ⟨h.code.more hk, h.row⟩
theorem TxAt.x0 (h : TxAt w own br bc tv t c k) : w.cell? ⟨br, 0, none⟩ = some (.pointer (some ⟨bc, 0, none⟩)) := cell_of_block h.row.blk rfl
theorem TxAt.x1 (h : TxAt w own br bc tv t c k) : w.cell? ⟨br, 1, none⟩ = some (.int .i64 t.words) := cell_of_block h.row.blk rfl
theorem TxAt.x2 (h : TxAt w own br bc tv t c k) : w.cell? ⟨br, 2, none⟩ = some tv := cell_of_block h.row.blk rfl
theorem TxAt.x3 (h : TxAt w own br bc tv t c k) : w.cell? ⟨br, 3, none⟩ = some (.int .i64 t.size) := cell_of_block h.row.blk rfl
theorem TxAt.x5 (h : TxAt w own br bc tv t c k) : w.cell? ⟨br, 5, none⟩ = some (.int .i64 t.log) := cell_of_block h.row.blk rfl
theorem TxAt.x6 (h : TxAt w own br bc tv t c k) : w.cell? ⟨br, 6, none⟩ = some (.int .i64 t.prints) := cell_of_block h.row.blk rfl
theorem TxAt.x7 (h : TxAt w own br bc tv t c k) : w.cell? ⟨br, 7, none⟩ = some (.int .i64 t.arena) := cell_of_block h.row.blk rfl
theorem TxAt.x9 (h : TxAt w own br bc tv t c k) : w.cell? ⟨br, 9, none⟩ = some (.int .i64 t.base) := cell_of_block h.row.blk rfl
theorem TxAt.x10 (h : TxAt w own br bc tv t c k) : w.cell? ⟨br, 10, none⟩ = some (.int .i64 t.th) := cell_of_block h.row.blk rfl
theorem TxAt.x11 (h : TxAt w own br bc tv t c k) : w.cell? ⟨br, 11, none⟩ = some (.int .i64 t.sum) := cell_of_block h.row.blk rfl
def EmT (own : Nat → Prop) (w : World) (br bc : Nat) (tv : Value) (t : TxC) (c c' : Cd) (k' : Nat) (e : Ending) (w' : World) : Prop :=
  e = .returned (.tuple #[]) ∧ ∃ own', TxAt w' own' br bc tv t c' k' ∧ Turn own w own' w' ∧ c.labs.length ≤ c'.labs.length
theorem EmC.tx {c' : Cd} {k' : Nat} {e : Ending} (h : TxAt w own br bc tv t c k) (he : EmC own w bc c c' k' (.tuple #[]) e w') : EmT own w br bc tv t c c' k' e w' := by
  obtain ⟨h1, own', h2, h3, h4⟩ := he
  exact ⟨h1, own', h.next h2 h3, h3, h4⟩
def Cd.get (t : TxC) (r a : Int) (c : Cd) : Cd := c.load r 7 (t.base + a)
def Cd.sto (t : TxC) (a r : Int) (c : Cd) : Cd := c.store 7 (t.base + a) r
theorem txget_any (h : TxAt w own br bc tv t c k) (ok : TxOk t) (r a : Int) (ha : 0 ≤ a ∧ a ≤ 262144) :
    Calls Tryz.prog 202 #[.pointer (some ⟨br, 0, none⟩), .int .u8 r, .int .i64 a] w (EmT own w br bc tv t c (c.get t r a) k) := by
  have x0 := h.x0
  have x9 := h.x9
  have e1 : IntKind.i64.wrap (t.base + a) = t.base + a := IntWalk.i64_in _ (by have := ok.base; omega)
  have H := hidI h
  clear h ok ha
  go_enter Tryz.func202, Tryz.ntmps202
  go_wp2_with fail
  go_still_tail 11, (by kernel_rfl)
  go_wp2_with fail
  refine (emload_any H.out.code.drew r 7 (t.base + a)).mono ?_
  rintro e w1 ⟨rfl, own1, r1, r2, r3⟩
  go_wp2_with fail
  go_end0
  have ht := ((Turn.refl own w).drew).trans r2
  exact ⟨rfl, own1, H.out.next r1 ht, ht, r3⟩
theorem txput_any (h : TxAt w own br bc tv t c k) (ok : TxOk t) (a r : Int) (ha : 0 ≤ a ∧ a ≤ 262144) :
    Calls Tryz.prog 179 #[.pointer (some ⟨br, 0, none⟩), .int .i64 a, .int .u8 r] w (EmT own w br bc tv t c (c.sto t a r) k) := by
  have x0 := h.x0
  have x9 := h.x9
  have e1 : IntKind.i64.wrap (t.base + a) = t.base + a := IntWalk.i64_in _ (by have := ok.base; omega)
  have H := hidI h
  clear h ok ha
  go_enter Tryz.func179, Tryz.ntmps179
  go_wp2_with fail
  go_still_tail 11, (by kernel_rfl)
  go_wp2_with fail
  refine (emstore_any H.out.code.drew 7 (t.base + a) r).mono ?_
  rintro e w1 ⟨rfl, own1, r1, r2, r3⟩
  go_wp2_with fail
  go_end0
  have ht := ((Turn.refl own w).drew).trans r2
  exact ⟨rfl, own1, H.out.next r1 ht, ht, r3⟩
theorem txowner_any (h : TxAt w own br bc tv t c k) (ok : TxOk t) :
    Calls Tryz.prog 240 #[.pointer (some ⟨br, 0, none⟩)] w fun e w' => e = .returned (.int .i64 (2 * t.th + 1)) ∧ w' = w := by
  have x10 := h.x10
  have e1 : IntKind.i64.wrap (2 * t.th) = 2 * t.th := IntWalk.i64_in _ (by have := ok.th; omega)
  have e2 : IntKind.i64.wrap (2 * t.th + 1) = 2 * t.th + 1 := IntWalk.i64_in _ (by have := ok.th; omega)
  clear h ok
  go_enter Tryz.func240, Tryz.ntmps240
  go_wp2_with fail
  go_ret
  exact ⟨rfl, rfl⟩
end Go.Proofs.YtgodmogkhgilmaaGreatDoor

/- Part of the proof: TsoE -/
import Derived.Test.YtgodmogkhgilmaaGreatDoorP25
import Derived.StillTailTactics
namespace Go.Proofs.YtgodmogkhgilmaaGreatDoor
open Go.RowKit
set_option linter.unusedVariables false
set_option linter.unusedSimpArgs false
set_option maxHeartbeats 2000000
set_option maxRecDepth 100000
abbrev SXo (own : Nat → Nat) : Nat → Prop := fun k => own k ≠ 0 ∧ ¬ (5 ≤ own k ∧ own k % 3 = 2)
def MT.stops (t : MT) (o : OpD) : Option Int :=
  if o.kind = 3 then (if calcS o.cal (t.r o.a) (t.r o.b) = none then some 2 else none)
  else if o.kind = 13 then some o.n
  else if o.kind = 14 then some 1
  else none
def WorkPost (base b : Nat) (own : Nat → Nat) (mm : MM) (xs : List TX) (tb cap n : Nat) (x : TX) (o : OpD) (a : Int) (w : World) (r : Ending) (w' : World) : Prop :=
  (x.th.stops o = none ∧ ∃ nx own' mm' xs' x' mv' ev', r = .returned (.int .i64 nx) ∧ MAt w' base b own' mm' xs' mv' (.slice (some ⟨tb, 0, none⟩) xs'.length cap) ev' ∧ xs'.length = xs.length ∧ xs'[n]? = some x' ∧ mm'.put n { x'.th with at_ := nx } = mm.act n x.th o a ∧
    (∀ k, k < w.heap.size → own' k = own k) ∧ Chg (SXo own) w w') ∨
  (∃ k, x.th.stops o = some k ∧ r = .panicked [tfault k] ∧ Below w.heap.size w w' ∧ mm.act n x.th o a = mm.stop n x.th k ∧ 1 ≤ k ∧ k < 256)
theorem MM.put_put (mm : MM) (n : Nat) (t u : MT) : (mm.put n t).put n u = mm.put n u := by simp [MM.put]
variable {w w' : World} {base b : Nat} {own own' : Nat → Nat} {mm : MM} {xs : List TX} {mv ev : Value} {tb cap n : Nat} {x : TX}
theorem work_one {r : Ending} {o : OpD} {a nx : Int} {y : TX} {mm' : MM} {w1 : World} (hx : xs[n]? = some x) (hr : r = .returned (.int .i64 nx)) (hm : MAt w1 base b own mm' (xs.set n y) mv (.slice (some ⟨tb, 0, none⟩) (xs.set n y).length cap) ev)
    (he : mm'.put n { y.th with at_ := nx } = mm.act n x.th o a) (hc : Chg (SXo own) w w1) (hs : x.th.stops o = none) : WorkPost base b own mm xs tb cap n x o a w r w1 :=
  .inl ⟨hs, nx, own, mm', xs.set n y, y, mv, ev, hr, hm, by simp, set_at hx y, he, fun _ _ => rfl, hc⟩
theorem work_none {r : Ending} {o : OpD} {a nx : Int} {w1 : World} (hx : xs[n]? = some x) (hr : r = .returned (.int .i64 nx)) (hm : MAt w1 base b own mm xs mv (.slice (some ⟨tb, 0, none⟩) xs.length cap) ev)
    (he : mm.put n { x.th with at_ := nx } = mm.act n x.th o a) (hc : Chg (SXo own) w w1) (hs : x.th.stops o = none) : WorkPost base b own mm xs tb cap n x o a w r w1 :=
  .inl ⟨hs, nx, own, mm, xs, x, mv, ev, hr, hm, rfl, hx, he, fun _ _ => rfl, hc⟩
theorem cell_otherD {w : World} {a p : Addr} {u v : Value} (h : w.cell? a = some v) (hn : ¬ a.block = p.block) : (w.setCell p u).drew.cell? a = some v := by
  show (w.setCell p u).cell? a = some v
  rw [World.cell?_of_block (w := w) (Below.heap_setCell _ _ _ _ hn)]; exact h
theorem MAt.ringedS (h : MAt w base b own mm xs mv (.slice (some ⟨tb, 0, none⟩) xs.length cap) ev) (hx : xs[n]? = some x) (hc : Chg (fun k => k = x.bb) w w') {q : List (Int × Int)} {c : Array Value} {f : Nat} (hr : Ring w' x.bb q c f) :
    MAt w' base b own (mm.put n { x.th with wait := q }) (xs.set n { x with th := { x.th with wait := q } }) mv (.slice (some ⟨tb, 0, none⟩) (xs.set n { x with th := { x.th with wait := q } }).length cap) ev := by
  rw [List.length_set]
  exact h.ringed hx hc hr
theorem i64Info : (Tryz.prog.info? 2).map (fun i => (i.zero, i.size, i.bytes)) = some (some (.int .i64 0), 1, 8) := by kernel_rfl
theorem one_I (z : Int) : ∀ u ∈ encI z, u.oneCell' = true := by
  intro u hu
  simp [encI] at hu
  rcases hu with rfl
  rfl
def LoadPost (base b : Nat) (own : Nat → Nat) (mm : MM) (xs : List TX) (mv ev : Value) (tb cap n : Nat) (x : TX) (ra : Nat) (v : Int) (w : World) (r : Ending) (w' : World) : Prop :=
  r = .returned (.int .i64 (x.th.at_ + 1)) ∧ MAt w' base b own (mm.put n { x.th with reg := upd x.th.reg ra v }) (xs.set n { x with th := { x.th with reg := upd x.th.reg ra v } }) mv (.slice (some ⟨tb, 0, none⟩) (xs.set n { x with th := { x.th with reg := upd x.th.reg ra v } }).length cap) ev ∧ Chg (SXo own) w w'
theorem chg_below {a0 a1 : World} (h : Below a0.heap.size a0 a1) : Chg (SXo own) a0 a1 := Chg.of_below h
variable {cal num : Int} {ra rb rc mb mc : Nat}
abbrev opB (K cal : Int) (ra rb rc : Nat) (num : Int) : Obj := .cells #[.int .u8 K, .int .u8 cal, .int .u8 (ra : Int), .int .u8 (rb : Int), .int .u8 (rc : Int), .int .i64 num] 101
def TsIn (w : World) (base b : Nat) (own : Nat → Nat) (mm : MM) (xs : List TX) (mv ev : Value) (tb cap n : Nat) (x : TX) (ra rb rc : Nat) : Prop :=
  MAt w base b own mm xs mv (.slice (some ⟨tb, 0, none⟩) xs.length cap) ev ∧ xs[n]? = some x ∧ ra < 8 ∧ rb < 8 ∧ rc < 8 ∧ 0 ≤ x.th.at_ ∧ x.th.at_ ≤ 262144
def InsC (F : Nat) (w : World) (b tb n : Nat) (K cal : Int) (ra rb rc : Nat) (num a : Int) (Q : Ending → World → Prop) : Prop :=
  Calls Tryz.prog F #[.pointer (some ⟨b, 0, none⟩), .pointer (some ⟨tb, n * 13, none⟩), .agg #[.int .u8 K, .int .u8 cal, .int .u8 (ra : Int), .int .u8 (rb : Int), .int .u8 (rc : Int), .int .i64 num], .int .i64 a] w Q
def PreF (w w0 : World) (tb n : Nat) (t : MT) (cal num : Int) (ra rb rc : Nat) : Prop :=
  w0.cell? ⟨w.heap.size, 1, none⟩ = some (.int .u8 cal) ∧ w0.cell? ⟨w.heap.size, 2, none⟩ = some (.int .u8 (ra : Int)) ∧ w0.cell? ⟨w.heap.size, 3, none⟩ = some (.int .u8 (rb : Int)) ∧ w0.cell? ⟨w.heap.size, 4, none⟩ = some (.int .u8 (rc : Int)) ∧ w0.cell? ⟨w.heap.size, 5, none⟩ = some (.int .i64 num) ∧
  w0.cell? ⟨tb, n * 13 + 1 + ra, none⟩ = some (.int .i64 (t.reg ra)) ∧ w0.cell? ⟨tb, n * 13 + 1 + rb, none⟩ = some (.int .i64 (t.reg rb)) ∧ w0.cell? ⟨tb, n * 13 + 1 + rc, none⟩ = some (.int .i64 (t.reg rc)) ∧ w0.cell? ⟨tb, n * 13 + 9, none⟩ = some (.int .i64 t.at_) ∧
  w.heap.size < w0.heap.size ∧ w0.frozen? ⟨tb, n * 13 + 1 + ra, none⟩ = false ∧ w0.frozen? ⟨tb, n * 13 + 1 + rb, none⟩ = false
theorem tso_pre (p : TsIn w base b own mm xs mv ev tb cap n x ra rb rc) (K cal num : Int) {w0 : World} (e : w.alloc (.cells #[.int .u8 K, .int .u8 cal, .int .u8 (ra : Int), .int .u8 (rb : Int), .int .u8 (rc : Int), .int .i64 num] 101) = w0) :
    PreF w w0 tb n x.th cal num ra rb rc ∧ (ra : Int) < 8 ∧ (rb : Int) < 8 ∧ (rc : Int) < 8 ∧ n < xs.length ∧ IntKind.i64.wrap (x.th.at_ + 1) = x.th.at_ + 1 ∧ Hid (tb ≠ w.heap.size) ∧ Hid (MAt w0 base b own mm xs mv (.slice (some ⟨tb, 0, none⟩) xs.length cap) ev) ∧ Hid (Below w.heap.size w w0) ∧
    Hid (xs[n]? = some x) ∧ Hid (MAt w base b own mm xs mv (.slice (some ⟨tb, 0, none⟩) xs.length cap) ev) ∧ ra < 8 ∧ rb < 8 ∧ rc < 8 ∧ Hid (0 ≤ x.th.at_ ∧ x.th.at_ ≤ 262144) := by
  obtain ⟨h, hx, hra, hrb, hrc, hat⟩ := p
  subst e
  have hb0 := (Below.refl w.heap.size w).alloc (Nat.le_refl _) (.cells #[.int .u8 K, .int .u8 cal, .int .u8 (ra : Int), .int .u8 (rb : Int), .int .u8 (rc : Int), .int .i64 num] 101)
  have h0 := h.below hb0
  have hbox := block_new w (.cells #[.int .u8 K, .int .u8 cal, .int .u8 (ra : Int), .int .u8 (rb : Int), .int .u8 (rc : Int), .int .i64 num] 101)
  have hn : n < xs.length := (List.getElem?_eq_some_iff.1 hx).1
  have fT := h0.free (tb := tb) (by omega : 0 < xs.length)
  have hr : ∀ r, r < 8 → (w.alloc (.cells #[.int .u8 K, .int .u8 cal, .int .u8 (ra : Int), .int .u8 (rb : Int), .int .u8 (rc : Int), .int .i64 num] 101)).cell? ⟨tb, n * 13 + 1 + r, none⟩ = some (.int .i64 (x.th.reg r)) := fun r h => by
    rw [Nat.add_assoc]; exact h0.cell hx _ _ (encX_reg x r h)
  exact ⟨⟨cell_of_block hbox rfl, cell_of_block hbox rfl, cell_of_block hbox rfl, cell_of_block hbox rfl, cell_of_block hbox rfl, hr _ hra, hr _ hrb, hr _ hrc, h0.cell hx 9 _ rfl, by simp, fT _, fT _⟩,
    by omega, by omega, by omega, hn, IntWalk.i64_in _ (by omega), (by show tb ≠ w.heap.size; have := (rowLt h.ths (g := tb) rfl).2; omega), h0, hb0, hx, h, hra, hrb, hrc, hat⟩
theorem tso_mem {w0 : World} {tv : Value} (h0 : Hid (MAt w0 base b own mm xs (.slice (some ⟨mb, 0, none⟩) mm.mem.length mc) tv ev)) {a : Nat} (ha : a < mm.mem.length) : ∃ M0, w0.cell? ⟨b, 1, none⟩ = some (.slice (some ⟨mb, 0, none⟩) mm.mem.length mc) ∧
    w0.cell? ⟨mb, a, none⟩ = some (.int .i64 M0) ∧ w0.frozen? ⟨mb, a, none⟩ = false ∧ Hid (mm.at (a : Int) = M0) := ⟨mm.mem.getD a 0, h0.out.wcell 1 _ rfl, h0.out.mcell ha, h0.out.mfree (by omega : 0 < mm.mem.length) a, hidI (show mm.at (a : Int) = mm.mem.getD a 0 from rfl)⟩
theorem tso_reg {w1 : World} {mm1 : MM} (HX : Hid (xs[n]? = some x)) (H : Hid (MAt w base b own mm xs mv (.slice (some ⟨tb, 0, none⟩) xs.length cap) ev)) (h1 : MAt w1 base b own mm1 xs mv (.slice (some ⟨tb, 0, none⟩) xs.length cap) ev) (hc : Chg (SXo own) w w1) {r : Nat} (hr : r < 8) (v : Int) :
    Hid (MAt (w1.setCell ⟨tb, n * 13 + 1 + r, none⟩ (.int .i64 v)).drew base b own (mm1.put n { x.th with reg := upd x.th.reg r v }) (xs.set n { x with th := { x.th with reg := upd x.th.reg r v } }) mv (.slice (some ⟨tb, 0, none⟩) (xs.set n { x with th := { x.th with reg := upd x.th.reg r v } }).length cap) ev) ∧
    Hid (Chg (SXo own) w (w1.setCell ⟨tb, n * 13 + 1 + r, none⟩ (.int .i64 v)).drew) ∧ (w1.setCell ⟨tb, n * 13 + 1 + r, none⟩ (.int .i64 v)).drew.cell? ⟨tb, n * 13 + 9, none⟩ = some (.int .i64 x.th.at_) := by
  have h2 := (h1.poke HX.out { x with th := { x.th with reg := upd x.th.reg r v } } (1 + r) (.int .i64 v) (by omega) (encX_setReg x v r hr) rfl rfl rfl rfl rfl rfl).drew
  rw [← Nat.add_assoc] at h2
  exact ⟨h2, Chg.then_ hc (((Chg.refl (fun k => k = tb) _).setCell (p := ⟨tb, _, none⟩) (.inl rfl) _).drew) (fun k _ e => by rw [e]; show own tb ≠ 0 ∧ ¬ (5 ≤ own tb ∧ own tb % 3 = 2); rw [H.out.thsT tb rfl]; decide), h2.cell (set_at HX.out _) 9 _ rfl⟩
theorem tso_word {w1 : World} {u : Value} (H : Hid (MAt w base b own mm xs (.slice (some ⟨mb, 0, none⟩) mm.mem.length mc) (.slice (some ⟨tb, 0, none⟩) xs.length cap) ev)) (h1 : MAt w1 base b own mm xs (.slice (some ⟨mb, 0, none⟩) mm.mem.length mc) (.slice (some ⟨tb, 0, none⟩) xs.length cap) ev) (hc : Chg (SXo own) w w1) {a : Nat} (ha : a < mm.mem.length) (v : Int) (d : w1.cell? ⟨w.heap.size, 3, none⟩ = some u) :
    ∃ w2, (w1.setCell ⟨mb, a, none⟩ (.int .i64 v)).drew = w2 ∧ Hid (MAt w2 base b own { mm with mem := mm.mem.set a v } xs (.slice (some ⟨mb, 0, none⟩) mm.mem.length mc) (.slice (some ⟨tb, 0, none⟩) xs.length cap) ev) ∧ Hid (Chg (SXo own) w w2) ∧ w2.cell? ⟨w.heap.size, 3, none⟩ = some u :=
  ⟨_, rfl, (h1.word ha v).drew, Chg.then_ hc (((Chg.refl (fun k => k = mb) _).setCell (p := ⟨mb, a, none⟩) (.inl rfl) _).drew) (fun k _ e => by rw [e]; show own mb ≠ 0 ∧ ¬ (5 ≤ own mb ∧ own mb % 3 = 2); rw [H.out.memT mb rfl]; decide), cell_otherD d (by show ¬ w.heap.size = mb; have := (rowLt H.out.mem (g := mb) rfl).2; omega)⟩
theorem tso_cr {w1 : World} {mm1 : MM} {ev : Value} (HX : Hid (xs[n]? = some x)) (h1 : Hid (MAt w1 base b own mm1 xs mv (.slice (some ⟨tb, 0, none⟩) xs.length cap) ev)) {r : Nat} (hr : r < 8) :
    w1.cell? ⟨tb, n * 13 + 1 + r, none⟩ = some (.int .i64 (x.th.reg r)) ∧ w1.frozen? ⟨tb, n * 13 + 1 + r, none⟩ = false := by
  have q2 := h1.out.cell HX.out (1 + r) _ (encX_reg x r hr)
  rw [← Nat.add_assoc] at q2
  exact ⟨q2, h1.out.free (by have := (List.getElem?_eq_some_iff.1 HX.out).1; omega) _⟩
theorem tso_reb {w0 : World} (H0 : Hid (MAt w0 base b own mm xs mv (.slice (some ⟨tb, 0, none⟩) xs.length cap) ev)) (HB : Hid (Below w.heap.size w w0)) (HP : Hid (PreF w w0 tb n x.th cal num ra rb rc)) (nq : Nat) :
    ∃ w1, w0.drewN nq = w1 ∧ Hid (MAt w1 base b own mm xs mv (.slice (some ⟨tb, 0, none⟩) xs.length cap) ev) ∧ Hid (Below w.heap.size w w1) ∧ PreF w w1 tb n x.th cal num ra rb rc := ⟨_, rfl, H0.out.drewN nq, below_drewN HB.out nq, HP.out⟩
theorem tso_ev {w1 w2 : World} {own1 : Nat → Nat} (hc : Chg (SXo own) w w1) (h : Chg (fun k => own1 k = 1 ∨ own1 k = 4) w1.drew w2) (ho : ∀ k, k < w.heap.size → own1 k = own k) : Chg (SXo own) w w2 :=
  Chg.then_ (S := SXo own) hc ((Chg.refl (fun k => own1 k = 1 ∨ own1 k = 4) w1).drew.trans h) (fun k hk e => by
    have h1 := ho k hk
    show own k ≠ 0 ∧ ¬ (5 ≤ own k ∧ own k % 3 = 2)
    rw [← h1]
    rcases e with e | e <;> rw [e] <;> decide)
theorem ins_set (p : TsIn w base b own mm xs mv ev tb cap n x ra rb rc) (a : Int) :
    InsC 247 w b tb n 1 cal ra rb rc num a (WorkPost base b own mm xs tb cap n x ⟨1, cal, ra, rb, rc, num⟩ a w) := by
  obtain ⟨hp, hAi, hBi, hCi, hn, hw1, HS, H0, HB, HX, H, hra, hrb, hrc, HAT⟩ := tso_pre p 1 cal num rfl
  have HP := hidI hp
  obtain ⟨d1, d2, d3, d4, d5, rA, rB, rC, cAt, hws, fA, fB⟩ := hp
  clear p
  unfold InsC
  go_enter Tryz.func247, Tryz.ntmps247
  go_wp2_with fail
  try generalize w.alloc (opB 1 cal ra rb rc num) = w0 at *
  go_region
  obtain ⟨H2, HC2, e9⟩ := tso_reg HX H H0.out (Chg.of_below HB.out) hra (num)
  clear rA rB rC cAt fA fB
  go_wp2_with fail
  go_ret
  exact work_one HX.out rfl H2.out (by simp [MM.act, MM.put_put, MT.goes]) HC2.out (by simp [MT.stops])
theorem ins_move (p : TsIn w base b own mm xs mv ev tb cap n x ra rb rc) (a : Int) :
    InsC 248 w b tb n 2 cal ra rb rc num a (WorkPost base b own mm xs tb cap n x ⟨2, cal, ra, rb, rc, num⟩ a w) := by
  obtain ⟨hp, hAi, hBi, hCi, hn, hw1, HS, H0, HB, HX, H, hra, hrb, hrc, HAT⟩ := tso_pre p 2 cal num rfl
  have HP := hidI hp
  obtain ⟨d1, d2, d3, d4, d5, rA, rB, rC, cAt, hws, fA, fB⟩ := hp
  clear p
  unfold InsC
  go_enter Tryz.func248, Tryz.ntmps248
  go_wp2_with fail
  try generalize w.alloc (opB 2 cal ra rb rc num) = w0 at *
  go_region
  obtain ⟨H2, HC2, e9⟩ := tso_reg HX H H0.out (Chg.of_below HB.out) hra (x.th.reg rb)
  clear rA rB rC cAt fA fB
  go_wp2_with fail
  go_ret
  exact work_one HX.out rfl H2.out (by simp [MM.act, MM.put_put, MT.goes, MT.r]) HC2.out (by simp [MT.stops])
theorem ins_jump (p : TsIn w base b own mm xs mv ev tb cap n x ra rb rc) (a : Int) (hj : 0 ≤ num ∧ num ≤ 262144) :
    InsC 252 w b tb n 6 cal ra rb rc num a (WorkPost base b own mm xs tb cap n x ⟨6, cal, ra, rb, rc, num⟩ a w) := by
  obtain ⟨hp, hAi, hBi, hCi, hn, hw1, HS, H0, HB, HX, H, hra, hrb, hrc, HAT⟩ := tso_pre p 6 cal num rfl
  have HP := hidI hp
  obtain ⟨d1, d2, d3, d4, d5, rA, rB, rC, cAt, hws, fA, fB⟩ := hp
  clear p
  unfold InsC
  go_enter Tryz.func252, Tryz.ntmps252
  go_wp2_with fail
  try generalize w.alloc (opB 6 cal ra rb rc num) = w0 at *
  go_ret
  exact work_none HX.out rfl H0.out (by simp [MM.act]) (chg_below HB.out) (by simp [MT.stops])
theorem ins_fence (p : TsIn w base b own mm xs mv ev tb cap n x ra rb rc) (a : Int) :
    InsC 256 w b tb n 10 cal ra rb rc num a (WorkPost base b own mm xs tb cap n x ⟨10, cal, ra, rb, rc, num⟩ a w) := by
  obtain ⟨hp, hAi, hBi, hCi, hn, hw1, HS, H0, HB, HX, H, hra, hrb, hrc, HAT⟩ := tso_pre p 10 cal num rfl
  have HP := hidI hp
  obtain ⟨d1, d2, d3, d4, d5, rA, rB, rC, cAt, hws, fA, fB⟩ := hp
  clear p
  unfold InsC
  go_enter Tryz.func256, Tryz.ntmps256
  go_wp2_with fail
  try generalize w.alloc (opB 10 cal ra rb rc num) = w0 at *
  go_ret
  exact work_none HX.out rfl H0.out (by simp [MM.act, MT.next]) (chg_below HB.out) (by simp [MT.stops])
theorem ins_zero (p : TsIn w base b own mm xs mv ev tb cap n x ra rb rc) (a : Int) (hj : 0 ≤ num ∧ num ≤ 262144) :
    InsC 253 w b tb n 7 cal ra rb rc num a (WorkPost base b own mm xs tb cap n x ⟨7, cal, ra, rb, rc, num⟩ a w) := by
  obtain ⟨hp, hAi, hBi, hCi, hn, hw1, HS, H0, HB, HX, H, hra, hrb, hrc, HAT⟩ := tso_pre p 7 cal num rfl
  have HP := hidI hp
  obtain ⟨d1, d2, d3, d4, d5, rA, rB, rC, cAt, hws, fA, fB⟩ := hp
  clear p
  by_cases hz : x.th.reg ra = 0
  · rw [hz] at rA
    have HZ := hidI hz
    clear hz
    unfold InsC
    go_enter Tryz.func253, Tryz.ntmps253
    go_wp2_with fail
    try generalize w.alloc (opB 7 cal ra rb rc num) = w0 at *
    go_quiet (fail)
    go_wp2_with fail
    go_ret
    exact work_none HX.out rfl (H0.out.drewN _) (by simp [MM.act, MT.r, HZ.out]) ((chg_below HB.out).drewN _) (by simp [MT.stops])
  · have hz1 : (x.th.reg ra == 0) = false := by rw [beq_eq_false_iff_ne]; exact hz
    unfold InsC
    go_enter Tryz.func253, Tryz.ntmps253
    go_wp2_with fail
    try generalize w.alloc (opB 7 cal ra rb rc num) = w0 at *
    go_quiet (fail)
    go_wp2_with fail
    go_ret
    exact work_none HX.out rfl (H0.out.drewN _) (by simp [MM.act, MT.r, hz]) ((chg_below HB.out).drewN _) (by simp [MT.stops])
theorem ins_xadd (p : TsIn w base b own mm xs mv ev tb cap n x ra rb rc) {a : Nat} (ha : a < mm.mem.length) :
    InsC 255 w b tb n 9 cal ra rb rc num (a : Int) (WorkPost base b own mm xs tb cap n x ⟨9, cal, ra, rb, rc, num⟩ (a : Int) w) := by
  obtain ⟨mb, mc, rfl, hmb⟩ := p.1.mslice (by omega)
  obtain ⟨hp, hAi, hBi, hCi, hn, hw1, HS, H0, HB, HX, H, hra, hrb, hrc, HAT⟩ := tso_pre p 9 cal num rfl
  have HP := hidI hp
  obtain ⟨d1, d2, d3, d4, d5, rA, rB, rC, cAt, hws, fA, fB⟩ := hp
  obtain ⟨M0, c1, cM, fM, HM0⟩ := tso_mem H0 ha
  obtain ⟨V, hV⟩ : ∃ V, V = w64 (M0 + x.th.reg rb) := ⟨_, rfl⟩
  have eV : IntKind.i64.wrap (M0 + x.th.reg rb) = V := by rw [hV]; exact w64_wrap _
  have HV := hidI hV
  clear hV
  clear p
  unfold InsC
  go_enter Tryz.func255, Tryz.ntmps255
  go_wp2_with fail
  try generalize w.alloc (opB 9 cal ra rb rc num) = w0 at *
  go_region
  obtain ⟨w2, ew, H2, HC2, g3⟩ := tso_word H H0.out (Chg.of_below HB.out) ha (V) d3
  rw [ew]
  clear rA rB rC cAt fA fB c1 cM fM d1 d2 d3 d4 d5 ew
  obtain ⟨q2, q3⟩ := tso_cr HX H2 hrb
  go_wp2_with fail
  go_region
  obtain ⟨H3, HC3, e9⟩ := tso_reg HX H H2.out HC2.out hrb (M0)
  clear q2 q3
  go_wp2_with fail
  go_ret
  refine work_one HX.out rfl H3.out ?_ HC3.out (by simp [MT.stops])
  rw [HV.out]
  simp [MM.act, MM.put, MT.goes, MT.r, HM0.out]
theorem ins_load {kd : Int} (p : TsIn w base b own mm xs mv ev tb cap n x ra rb rc) {a : Nat} (ha : a < mm.mem.length) :
    InsC 250 w b tb n kd cal ra rb rc num (a : Int) (LoadPost base b own mm xs mv ev tb cap n x ra (mm.found x.th a) w) := by
  obtain ⟨mb, mc, rfl, hmb⟩ := p.1.mslice (by omega)
  obtain ⟨hp, hAi, hBi, hCi, hn, hw1, HS, H0, HB, HX, H, hra, hrb, hrc, HAT⟩ := tso_pre p kd cal num rfl
  have HP := hidI hp
  obtain ⟨d1, d2, d3, d4, d5, rA, rB, rC, cAt, hws, fA, fB⟩ := hp
  obtain ⟨M0, c1, cM, fM, HM0⟩ := tso_mem H0 ha
  obtain ⟨rc0, rf0, HRING⟩ : ∃ c f, Hid (Ring (w.alloc (opB kd cal ra rb rc num)) x.bb x.th.wait c f) := (H0.out.th n x HX.out).ring
  have cW : (w.alloc (opB kd cal ra rb rc num)).cell? ⟨tb, n * 13 + 10, none⟩ = some (.pointer (some ⟨x.bb, 0, none⟩)) := H0.out.cell HX.out 10 _ rfl
  clear p
  unfold InsC
  go_enter Tryz.func250, Tryz.ntmps250
  go_wp2_with fail
  try generalize w.alloc (opB kd cal ra rb rc num) = w0 at *
  refine (find_yes HRING.out (a : Int)).mono ?_
  rintro r w1 ⟨rfl, nq, rfl⟩
  cases hf : findS x.th.wait a with
  | some v =>
    rw [show findV x.th.wait a = .tuple #[.int .i64 v, .bool true] from by unfold findV; rw [hf]]
    have HF := hidI (show mm.found x.th a = v from by unfold MM.found; rw [hf]; rfl)
    clear hf
    go_wp2_with fail
    clear d1 d2 d3 d4 d5 rA rB rC cAt hws cW HRING fA fB c1 cM fM
    obtain ⟨w1, ew, H1, HB1, -, d2, d3, d4, -, rA, rB, rC, -, -, fA, fB⟩ := tso_reb H0 HB HP nq
    obtain ⟨N0, c1, cM, fM, hN0⟩ := tso_mem H1 ha
    obtain rfl : N0 = M0 := hN0.out.symm.trans HM0.out
    rw [ew]
    clear ew HP H0 HB hN0
    go_region
    obtain ⟨H2, HC2, e9⟩ := tso_reg HX H H1.out (Chg.of_below HB1.out) hra (v)
    clear rA rB rC fA fB
    go_wp2_with fail
    go_ret
    exact ⟨rfl, by rw [HF.out]; exact H2.out, HC2.out⟩
  | none =>
    rw [show findV x.th.wait a = .tuple #[.int .i64 0, .bool false] from by unfold findV; rw [hf]]
    have HF := hidI (show mm.found x.th a = M0 from by unfold MM.found; rw [hf, HM0.out]; rfl)
    clear hf
    go_wp2_with fail
    clear d1 d2 d3 d4 d5 rA rB rC cAt hws cW HRING fA fB c1 cM fM
    obtain ⟨w1, ew, H1, HB1, -, d2, d3, d4, -, rA, rB, rC, -, -, fA, fB⟩ := tso_reb H0 HB HP nq
    obtain ⟨N0, c1, cM, fM, hN0⟩ := tso_mem H1 ha
    obtain rfl : N0 = M0 := hN0.out.symm.trans HM0.out
    rw [ew]
    clear ew HP H0 HB hN0
    go_region
    obtain ⟨H2, HC2, e9⟩ := tso_reg HX H H1.out (Chg.of_below HB1.out) hra (N0)
    clear rA rB rC fA fB
    go_wp2_with fail
    go_ret
    exact ⟨rfl, by rw [HF.out]; exact H2.out, HC2.out⟩
theorem ins_load4 (p : TsIn w base b own mm xs mv ev tb cap n x ra rb rc) {a : Nat} (ha : a < mm.mem.length) :
    InsC 250 w b tb n 4 cal ra rb rc num (a : Int) (WorkPost base b own mm xs tb cap n x ⟨4, cal, ra, rb, rc, num⟩ (a : Int) w) := by
  refine Calls.mono (ins_load p ha) ?_
  rintro r w1 ⟨rfl, hm, hc⟩
  exact work_one p.2.1 rfl hm (by simp [MM.act, MM.put, MT.goes]) hc (by simp [MT.stops])
theorem ins_look (p : TsIn w base b own mm xs mv ev tb cap n x ra rb rc) {a : Nat} (ha : a < mm.mem.length) (hev : mm.evs.length < 1000000000) (h4 : xs.length ≤ 4) :
    InsC 261 w b tb n 15 cal ra rb rc num (a : Int) (WorkPost base b own mm xs tb cap n x ⟨15, cal, ra, rb, rc, num⟩ (a : Int) w) := by
  obtain ⟨mb, mc, rfl, hmb⟩ := p.1.mslice (by omega)
  obtain ⟨hp, hAi, hBi, hCi, hn, hw1, HS, H0, HB, HX, H, hra, hrb, hrc, HAT⟩ := tso_pre p 15 cal num rfl
  have HP := hidI hp
  obtain ⟨d1, d2, d3, d4, d5, rA, rB, rC, cAt, hws, fA, fB⟩ := hp
  obtain ⟨M0, c1, cM, fM, HM0⟩ := tso_mem H0 ha
  have HE := hidI hev
  have H4 := hidI h4
  have HOWN := hidI (H.out.fresh _ (Nat.le_refl _))
  clear hev h4
  clear p
  unfold InsC
  go_enter Tryz.func261, Tryz.ntmps261
  go_wp2_with fail
  try generalize w.alloc (opB 15 cal ra rb rc num) = w0 at *
  refine Calls.mono (ins_load (kd := 15) ⟨H0.out, HX.out, hra, hrb, hrc, HAT.out⟩ ha) ?_
  rintro r w1 ⟨rfl, hm, hc⟩
  obtain ⟨gA, -⟩ := tso_cr (hidI (set_at HX.out _)) (hidI hm) hra
  have gA' : w1.cell? ⟨tb, n * 13 + 1 + ra, none⟩ = some (.int .i64 (mm.found x.th a)) := by simpa [upd] using gA
  have g2 : w1.cell? ⟨w.heap.size, 2, none⟩ = some (.int .u8 (ra : Int)) := (World.cell?_of_block (w := w0) (hc.block _ hws (fun e => e.1 HOWN.out))).trans d2
  have H2 := hidI hm
  have HC2 := hidI (Chg.then_ (S := SXo own) (Chg.of_below HB.out) hc (fun k _ e => e))
  clear hm hc gA rA rB rC cAt fA fB c1 cM fM d1 d2 d3 d4 d5
  go_wp2_with fail
  go_still_tail 9, (by kernel_rfl)
  go_wp2_with fail
  refine (event_any H2.out.drew (set_at HX.out _) HE.out (by rw [List.length_set]; exact H4.out) 1 (mm.found x.th a) 0).mono ?_
  rintro e w4 ⟨rfl, ⟨⟨own2, ev', hm, ho⟩, hc⟩⟩
  have H5 := hidI hm
  have HO := hidI (show ∀ k, k < w.heap.size → own2 k = own k from fun k hk => ho k (by
    have h1 := HC2.out.size
    show k < w1.heap.size; omega))
  have HC3 := hidI (tso_ev HC2.out hc (fun _ _ => rfl))
  clear hm ho hc gA' g2
  go_wp2_with fail
  go_ret
  exact .inl ⟨by simp [MT.stops], _, own2, _, _, _, _, ev', rfl, H5.out, by simp, set_at HX.out _, by simp [MM.act, MM.put, MM.tell, MT.goes], HO.out, HC3.out⟩
theorem ins_cas (p : TsIn w base b own mm xs mv ev tb cap n x ra rb rc) {a : Nat} (ha : a < mm.mem.length) :
    InsC 254 w b tb n 8 cal ra rb rc num (a : Int) (WorkPost base b own mm xs tb cap n x ⟨8, cal, ra, rb, rc, num⟩ (a : Int) w) := by
  obtain ⟨mb, mc, rfl, hmb⟩ := p.1.mslice (by omega)
  obtain ⟨hp, hAi, hBi, hCi, hn, hw1, HS, H0, HB, HX, H, hra, hrb, hrc, HAT⟩ := tso_pre p 8 cal num rfl
  have HP := hidI hp
  obtain ⟨d1, d2, d3, d4, d5, rA, rB, rC, cAt, hws, fA, fB⟩ := hp
  obtain ⟨M0, c1, cM, fM, HM0⟩ := tso_mem H0 ha
  clear p
  unfold InsC
  go_enter Tryz.func254, Tryz.ntmps254
  go_wp2_with fail
  try generalize w.alloc (opB 8 cal ra rb rc num) = w0 at *
  by_cases he : M0 = x.th.reg rb
  · have hb1 : (M0 == x.th.reg rb) = true := by simpa using he
    have HE := hidI he
    clear he
    go_quiet (fail)
    go_wp2_with fail
    clear d1 d2 d3 d4 d5 rA rB rC cAt hws fA fB c1 cM fM
    obtain ⟨w1, ew, H1, HB1, -, d2, d3, d4, -, rA, rB, rC, -, -, fA, fB⟩ := tso_reb H0 HB HP nq
    obtain ⟨N0, c1, cM, fM, hN0⟩ := tso_mem H1 ha
    obtain rfl : N0 = M0 := hN0.out.symm.trans HM0.out
    rw [ew]
    clear ew HP H0 HB hN0
    clear fA fB
    go_region
    obtain ⟨w2, ew, H2, HC2, g3⟩ := tso_word H H1.out (Chg.of_below HB1.out) ha (x.th.reg rc) d3
    rw [ew]
    clear ew rA rB rC c1 cM fM d2 d3 d4
    obtain ⟨q2, q3⟩ := tso_cr HX H2 hrb
    go_wp2_with fail
    go_region
    obtain ⟨H3, HC3, e9⟩ := tso_reg HX H H2.out HC2.out hrb (N0)
    clear q2 q3
    go_wp2_with fail
    go_ret
    exact work_one HX.out rfl H3.out (by simp [MM.act, MM.put, MT.goes, MT.r, HM0.out, HE.out]) HC3.out (by simp [MT.stops])
  · have hb1 : (M0 == x.th.reg rb) = false := by simpa using he
    have HE := hidI he
    clear he
    go_quiet (fail)
    go_wp2_with fail
    clear d1 d2 d3 d4 d5 rA rB rC cAt hws fA fB c1 cM fM
    obtain ⟨w1, ew, H1, HB1, -, d2, d3, d4, -, rA, rB, rC, -, -, fA, fB⟩ := tso_reb H0 HB HP nq
    obtain ⟨N0, c1, cM, fM, hN0⟩ := tso_mem H1 ha
    obtain rfl : N0 = M0 := hN0.out.symm.trans HM0.out
    rw [ew]
    clear ew HP H0 HB hN0
    go_region
    obtain ⟨H2, HC2, e9⟩ := tso_reg HX H H1.out (Chg.of_below HB1.out) hrb (N0)
    clear rA rB rC fA fB
    go_wp2_with fail
    go_ret
    exact work_one HX.out rfl H2.out (by simp [MM.act, MM.put, MT.goes, MT.r, HM0.out, HE.out]) HC2.out (by simp [MT.stops])
theorem ins_store (p : TsIn w base b own mm xs mv ev tb cap n x ra rb rc) (a : Int) (hfull : x.th.wait.length < 64) :
    InsC 251 w b tb n 5 cal ra rb rc num a (WorkPost base b own mm xs tb cap n x ⟨5, cal, ra, rb, rc, num⟩ a w) := by
  obtain ⟨hp, hAi, hBi, hCi, hn, hw1, HS, H0, HB, HX, H, hra, hrb, hrc, HAT⟩ := tso_pre p 5 cal num rfl
  have HP := hidI hp
  obtain ⟨d1, d2, d3, d4, d5, rA, rB, rC, cAt, hws, fA, fB⟩ := hp
  obtain ⟨rc0, rf0, HRING⟩ : ∃ c f, Hid (Ring (w.alloc (opB 5 cal ra rb rc num)) x.bb x.th.wait c f) := (H0.out.th n x HX.out).ring
  have cW : (w.alloc (opB 5 cal ra rb rc num)).cell? ⟨tb, n * 13 + 10, none⟩ = some (.pointer (some ⟨x.bb, 0, none⟩)) := H0.out.cell HX.out 10 _ rfl
  clear p
  unfold InsC
  go_enter Tryz.func251, Tryz.ntmps251
  go_wp2_with fail
  try generalize w.alloc (opB 5 cal ra rb rc num) = w0 at *
  go_still_tail 12, (by kernel_rfl)
  go_wp2_with fail
  refine (put_some (w := w0.drew) (HRING.out.drewN 1) hfull a (x.th.reg rb)).mono ?_
  rintro e w1 ⟨rfl, ⟨c', hr⟩, hc, hs⟩
  have h2 := H0.out.drew.ringedS HX.out hc hr
  have e9 := h2.cell (set_at HX.out _) 9 _ rfl
  have H2 := hidI h2
  have HC2 := hidI (Chg.then_ (S := SXo own) (Chg.of_below HB.out) ((Chg.refl (fun k => k = x.bb) w0).drew.trans hc) (fun k _ e => by rw [e]; show own x.bb ≠ 0 ∧ ¬ (5 ≤ own x.bb ∧ own x.bb % 3 = 2); rw [(H.out.th n x HX.out).ringT.2]; omega))
  clear h2 hr hc hs rA rB rC cAt fA fB HRING cW
  simp only at e9
  go_wp2_with fail
  go_ret
  exact work_one HX.out rfl H2.out (by simp [MM.act, MM.put, MT.next, MT.r]) HC2.out (by simp [MT.stops])
theorem ins_calc (p : TsIn w base b own mm xs mv ev tb cap n x ra rb rc) (a : Int) :
    InsC 249 w b tb n 3 cal ra rb rc num a (WorkPost base b own mm xs tb cap n x ⟨3, cal, ra, rb, rc, num⟩ a w) := by
  obtain ⟨hp, hAi, hBi, hCi, hn, hw1, HS, H0, HB, HX, H, hra, hrb, hrc, HAT⟩ := tso_pre p 3 cal num rfl
  have HP := hidI hp
  obtain ⟨d1, d2, d3, d4, d5, rA, rB, rC, cAt, hws, fA, fB⟩ := hp
  clear p
  unfold InsC
  go_enter Tryz.func249, Tryz.ntmps249
  go_wp2_with fail
  try generalize w.alloc (opB 3 cal ra rb rc num) = w0 at *
  have g1 := fun t => ext_cell d1 t
  have g2 := fun t => ext_cell d2 t
  have g3 := fun t => ext_cell d3 t
  have gA := fun t => ext_cell rA t
  have gB := fun t => ext_cell rB t
  clear d1 d3 d4 d5 rA rB rC cAt fA fB
  refine wp_region_grow (by kernel_rfl) (by kernel_rfl) ?_
  repeat (go_big_quiet_step ((first | (go_at_call 267; exact grow_of ((do_any _ cal (x.th.reg ra) (x.th.reg rb)).mono fun r w' h => ⟨h.1, by rw [h.2]; exact Below.refl _ _⟩)))))
  refine wpQuiet_nil ?_
  intro w1 hb1
  have H1 := hidI (H0.out.below hb1)
  have d2' : w1.cell? ⟨w.heap.size, 2, none⟩ = some (.int .u8 (ra : Int)) := (World.cell?_of_block (w := w0) (hb1.block _ hws)).trans d2
  obtain ⟨rA', fA'⟩ := tso_cr HX H1 hra
  have HB1 := hidI (HB.out.trans (hb1.mono HB.out.size))
  clear g1 g2 g3 gA gB hb1 d2 hws H0 HB HP
  cases hf : calcS cal (x.th.reg ra) (x.th.reg rb) with
  | some v =>
    rw [doV_some hf, doE_some hf]
    have HF := hidI hf
    clear hf
    go_wp2_with fail
    go_region
    obtain ⟨H2, HC2, e9⟩ := tso_reg HX H H1.out (Chg.of_below HB1.out) hra (v)
    clear rA' fA'
    go_wp2_with fail
    go_ret
    exact work_one HX.out rfl H2.out (by simp [MM.act, MM.put, MT.goes, MT.r, HF.out]) HC2.out (by simp [MT.stops, MT.r, HF.out])
  | none =>
    rw [doV_none hf, doE_none hf]
    have HF := hidI hf
    generalize hg : (if cal = 4 ∨ cal = 5 then (4 : Int) else 1) = E
    have hE : (E == 0) = false := by rw [← hg]; split <;> rfl
    clear hf hg
    go_wp2_with fail
    exact ⟨rfl, .inr ⟨2, by simp [MT.stops, MT.r, HF.out], rfl, HB1.out, by simp [MM.act, MT.r, HF.out], by omega, by omega⟩⟩
theorem ins_tell (p : TsIn w base b own mm xs mv ev tb cap n x ra rb rc) (a : Int) (hol : x.th.out.length < 1000000000) (hev : mm.evs.length < 1000000000) (h4 : xs.length ≤ 4) :
    InsC 257 w b tb n 11 cal ra rb rc num a (WorkPost base b own mm xs tb cap n x ⟨11, cal, ra, rb, rc, num⟩ a w) := by
  obtain ⟨hp, hAi, hBi, hCi, hn, hw1, HS, H0, HB, HX, H, hra, hrb, hrc, HAT⟩ := tso_pre p 11 cal num rfl
  have HP := hidI hp
  obtain ⟨d1, d2, d3, d4, d5, rA, rB, rC, cAt, hws, fA, fB⟩ := hp
  obtain ⟨i0, hi, hz0, hz1, hz2⟩ := info_parts i64Info
  have HOUT := hidI (H0.out.th n x HX.out).out
  have HOL := hidI hol
  have HE := hidI hev
  have H4 := hidI h4
  have c11 : (w.alloc (opB 11 cal ra rb rc num)).cell? ⟨tb, n * 13 + 11, none⟩ = some x.ov := H0.out.cell HX.out 11 _ rfl
  have f11 : (w.alloc (opB 11 cal ra rb rc num)).frozen? ⟨tb, n * 13 + 11, none⟩ = false := H0.out.free (tb := tb) (by omega : 0 < xs.length) (n * 13 + 11)
  have htb : tb < (w.alloc (opB 11 cal ra rb rc num)).heap.size := (rowLt H0.out.ths (g := tb) rfl).2
  have HOX := hidI (show ∀ g, x.ov.ownBlock = some g → g < w.heap.size from fun g hg => (rowLt (H.out.th n x HX.out).out hg).2)
  clear hol hev h4
  clear p
  unfold InsC
  go_enter Tryz.func257, Tryz.ntmps257
  go_wp2_with fail
  try generalize w.alloc (opB 11 cal ra rb rc num) = w0 at *
  clear rB rC d1 d3 d4 d5 cAt fA fB
  go_region_law (first | (refine step_append_d (by rfl) (.tmp 13) (.tmp 21) 92 (by rfl) base 2 i0 _ 1 8 Tryz.underlying92 hi hz0 hz1 hz2 rfl (by decide) x.ov x.th.out.length (x.th.out.flatMap encI) (by simp [Act.eval]) (by exact ownsRow_chg HOUT.out (((Chg.refl (fun _ => False) w0).alloc _).drew) (fun _ _ => id)) ⟨w0.heap.size, 0, none⟩ 1 1 (by decide) (encI (x.th.reg ra)) (by simp [Act.eval]) rfl (by exact news_at (block_new w0 _)) (one_I _) (by have := HOL.out; unfold maxLen; omega) (by have := HOL.out; omega) (by have := H0.out.base_le; show base ≤ (w0.alloc _).heap.size; rw [World.size_alloc]; omega) ?_; intro ao cp w2 h1 h2 h3; have hg0 : Chg (fun k => x.ov.ownBlock = some k) w0 w2 := Chg.grown (S := fun k => x.ov.ownBlock = some k) (((Chg.refl _ w0).alloc _).drew) h3 (fun k hk => .inl hk); have hbt : w2.heap[tb]? = w0.heap[tb]? := hg0.block tb htb (fun e => by have h7 := (H0.out.th n x HX.out).outT tb e; rw [H0.out.thsT tb rfl] at h7; omega); have s1 : w2.cell? ⟨tb, n * 13 + 11, none⟩ = some x.ov := (World.cell?_of_block hbt).trans c11; have s2 : w2.frozen? ⟨tb, n * 13 + 11, none⟩ = false := (by have f12 := f11; unfold World.frozen? at f12 ⊢; rw [hbt]; exact f12); have HG0 := hidI hg0; have HR := hidI h1; have HFR := hidI h2; clear h1 h2 h3 hg0 hbt))
  all_goals go_wp2_with fail
  all_goals (
    have hne : ∀ g, (Value.slice ao (x.th.out.length + 1) cp).ownBlock = some g → x.ov.ownBlock = some g ∨ w0.heap.size ≤ g := fun g hg => by
      rcases HFR.out g hg with e | e
      · exact .inl e
      · exact .inr (by have e' : (w0.alloc _).heap.size ≤ g := e; rw [World.size_alloc] at e'; omega)
    have h2 := H0.out.told HX.out (x.th.out ++ [x.th.reg ra]) (.slice ao (x.th.out.length + 1) cp) HG0.out (by rw [List.length_append, flat_snoc]; exact HR.out) hne
    have g2 : (w2.setCell ⟨tb, n * 13 + 11, none⟩ (.slice ao (x.th.out.length + 1) cp)).cell? ⟨w.heap.size, 2, none⟩ = some (.int .u8 (ra : Int)) := by
      rw [World.cell?_of_block (w := w0) ((Below.heap_setCell _ _ _ _ (fun e => HS.out e.symm)).trans (HG0.out.block _ hws (fun e => absurd (HOX.out w.heap.size e) (Nat.lt_irrefl _))))]
      exact d2
    have gA := h2.cell (set_at HX.out _) (1 + ra) _ (encX_reg _ ra hra)
    rw [← Nat.add_assoc] at gA
    have H2 := hidI h2
    have HC2 := hidI (Chg.then_ (S := SXo own) (Chg.of_below HB.out) ((Chg.then_ (S := SXo own) (Chg.refl _ w0) HG0.out (fun k _ e => by show own k ≠ 0 ∧ ¬ (5 ≤ own k ∧ own k % 3 = 2); rw [(H0.out.th n x HX.out).outT k e]; omega)).setCell (p := ⟨tb, n * 13 + 11, none⟩) (.inl (by show own tb ≠ 0 ∧ ¬ (5 ≤ own tb ∧ own tb % 3 = 2); rw [H.out.thsT tb rfl]; decide)) (.slice ao (x.th.out.length + 1) cp)) (fun k _ e => e))
    have HRT := hidI (fun k (hk : k < w0.heap.size) => (retag_old (own := own) (v := .slice ao (x.th.out.length + 1) cp) (p := 7 + 3 * n) hk))
    clear h2 hne
    simp only at gA
    generalize w2.setCell ⟨tb, n * 13 + 11, none⟩ (.slice ao (x.th.out.length + 1) cp) = w3 at H2 HC2 g2 gA ⊢
    generalize retag own (.slice ao (x.th.out.length + 1) cp) (7 + 3 * n) w0.heap.size = own1 at H2 HRT
    go_still_tail 9, (by kernel_rfl)
    go_wp2_with fail
    refine (event_any H2.out.drew (set_at HX.out _) HE.out (by rw [List.length_set]; exact H4.out) 9 (x.th.reg ra) 0).mono ?_
    rintro e w4 ⟨rfl, ⟨⟨own2, ev', hm, ho⟩, hc⟩⟩
    have e9 := hm.cell (set_at HX.out _) 9 _ rfl
    have H5 := hidI hm
    have HO := hidI (show ∀ k, k < w.heap.size → own2 k = own k from fun k hk => by
      have h1 := HC2.out.size
      have h2 := HB.out.size
      rw [ho k (by show k < w3.heap.size; omega)]
      exact HRT.out k (by omega))
    have HC3 := hidI (tso_ev HC2.out hc (fun k hk => HRT.out k (by have := HB.out.size; omega)))
    clear hm ho hc gA g2
    simp only at e9
    go_wp2_with fail
    go_ret
    exact .inl ⟨by simp [MT.stops], _, own2, _, _, _, mv, ev', rfl, H5.out, by simp, set_at HX.out _, by simp [MM.act, MM.put, MM.tell, MT.next, MT.r], HO.out, HC3.out⟩)
theorem ins_note (p : TsIn w base b own mm xs mv ev tb cap n x ra rb rc) (a : Int) (hnum : 1 ≤ num ∧ num ≤ 8) (hev : mm.evs.length < 1000000000) (h4 : xs.length ≤ 4) :
    InsC 258 w b tb n 12 cal ra rb rc num a (WorkPost base b own mm xs tb cap n x ⟨12, cal, ra, rb, rc, num⟩ a w) := by
  obtain ⟨hp, hAi, hBi, hCi, hn, hw1, HS, H0, HB, HX, H, hra, hrb, hrc, HAT⟩ := tso_pre p 12 cal num rfl
  have HP := hidI hp
  obtain ⟨d1, d2, d3, d4, d5, rA, rB, rC, cAt, hws, fA, fB⟩ := hp
  have eN : IntKind.u8.wrap num = num := by rw [IntKind.wrap_u8]; omega
  have HE := hidI hev
  have H4 := hidI h4
  clear hev h4 hnum
  clear p
  unfold InsC
  go_enter Tryz.func258, Tryz.ntmps258
  go_wp2_with fail
  try generalize w.alloc (opB 12 cal ra rb rc num) = w0 at *
  go_still_tail 19, (by kernel_rfl)
  go_wp2_with fail
  refine (event_any H0.out.drew HX.out HE.out H4.out num (x.th.reg ra) (x.th.reg rb)).mono ?_
  rintro e w1 ⟨rfl, hp⟩
  obtain ⟨⟨own', ev', hm, ho⟩, hc⟩ := hp
  have e9 := hm.cell HX.out 9 _ rfl
  have H2 := hidI hm
  have HO := hidI (show ∀ k, k < w.heap.size → own' k = own k from fun k hk => ho k (by have := HB.out.size; show k < w0.heap.size; omega))
  have HC2 := hidI (tso_ev (Chg.of_below HB.out) hc (fun _ _ => rfl))
  clear hm ho hc rA rB rC cAt fA fB
  go_wp2_with fail
  go_ret
  exact .inl ⟨by simp [MT.stops], _, own', _, xs, x, mv, ev', rfl, H2.out, rfl, HX.out, by simp [MM.act, MM.put, MM.tell, MT.next, MT.r], HO.out, HC2.out⟩
theorem ins_trap (p : TsIn w base b own mm xs mv ev tb cap n x ra rb rc) (a : Int) (hnum : 2 ≤ num ∧ num ≤ 8) :
    InsC 259 w b tb n 13 cal ra rb rc num a (WorkPost base b own mm xs tb cap n x ⟨13, cal, ra, rb, rc, num⟩ a w) := by
  obtain ⟨hp, hAi, hBi, hCi, hn, hw1, HS, H0, HB, HX, H, hra, hrb, hrc, HAT⟩ := tso_pre p 13 cal num rfl
  have HP := hidI hp
  obtain ⟨d1, d2, d3, d4, d5, rA, rB, rC, cAt, hws, fA, fB⟩ := hp
  have eN : IntKind.u8.wrap num = num := by rw [IntKind.wrap_u8]; omega
  clear p
  unfold InsC
  go_enter Tryz.func259, Tryz.ntmps259
  go_wp2_with fail
  try generalize w.alloc (opB 13 cal ra rb rc num) = w0 at *
  exact ⟨rfl, .inr ⟨num, by simp [MT.stops], rfl, HB.out, by simp [MM.act], by omega, by omega⟩⟩
theorem ins_halt (p : TsIn w base b own mm xs mv ev tb cap n x ra rb rc) (a : Int) :
    InsC 260 w b tb n 14 cal ra rb rc num a (WorkPost base b own mm xs tb cap n x ⟨14, cal, ra, rb, rc, num⟩ a w) := by
  obtain ⟨hp, hAi, hBi, hCi, hn, hw1, HS, H0, HB, HX, H, hra, hrb, hrc, HAT⟩ := tso_pre p 14 cal num rfl
  have HP := hidI hp
  obtain ⟨d1, d2, d3, d4, d5, rA, rB, rC, cAt, hws, fA, fB⟩ := hp
  clear p
  unfold InsC
  go_enter Tryz.func260, Tryz.ntmps260
  go_wp2_with fail
  try generalize w.alloc (opB 14 cal ra rb rc num) = w0 at *
  exact ⟨rfl, .inr ⟨1, by simp [MT.stops], rfl, HB.out, by simp [MM.act], by omega, by omega⟩⟩
end Go.Proofs.YtgodmogkhgilmaaGreatDoor

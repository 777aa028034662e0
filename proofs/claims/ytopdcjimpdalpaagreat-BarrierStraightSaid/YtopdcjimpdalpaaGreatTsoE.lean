/- Package tso: what each instruction does. (Written by mktsoe.py.) -/
import Derived.Test.YtopdcjimpdalpaaGreatTsoC
import Derived.StillTailTactics
namespace Go.Proofs.YtopdcjimpdalpaaGreat
open Go.RowKit
set_option linter.unusedVariables false
set_option linter.unusedSimpArgs false

/-- does the work end the thread? -/
def MT.stops (t : MT) (o : OpD) : Option Int :=
  if o.kind = 3 then (if calcS o.cal (t.r o.a) (t.r o.b) = none then some 2 else none)
  else if o.kind = 13 then some o.n
  else if o.kind = 14 then some 1
  else none

/-- what an instruction's work leaves: the machine but for the place, and the place; or the thread ends -/
def WorkPost (base b : Nat) (own : Nat → Nat) (mm : MM) (xs : List TX) (tb cap n : Nat) (x : TX) (o : OpD) (a : Int) (w : World) (r : Ending) (w' : World) : Prop :=
  (x.th.stops o = none ∧ ∃ nx own' mm' xs' x' mv' ev', r = .returned (.int .i64 nx) ∧ MAt w' base b own' mm' xs' mv' (.slice (some ⟨tb, 0, none⟩) xs'.length cap) ev' ∧ xs'.length = xs.length ∧ xs'[n]? = some x' ∧ mm'.put n { x'.th with at_ := nx } = mm.act n x.th o a ∧
    (∀ k, k < w.heap.size → own' k = own k) ∧ Chg (fun k => own k ≠ 0 ∧ ¬ (5 ≤ own k ∧ own k % 3 = 2)) w w') ∨
  (∃ k, x.th.stops o = some k ∧ r = .panicked [tfault k] ∧ Below w.heap.size w w' ∧ mm.act n x.th o a = mm.stop n x.th k ∧ 1 ≤ k ∧ k < 256)

theorem MM.put_put (mm : MM) (n : Nat) (t u : MT) : (mm.put n t).put n u = mm.put n u := by simp [MM.put]

variable {w w' : World} {base b : Nat} {own own' : Nat → Nat} {mm : MM} {xs : List TX} {mv ev : Value} {tb cap n : Nat} {x : TX}


/-- one cell of the thread has changed, and the place is known -/
theorem work_one {r : Ending} {o : OpD} {a nx : Int} {y : TX} {mm' : MM} {w1 : World} (hx : xs[n]? = some x) (hr : r = .returned (.int .i64 nx)) (hm : MAt w1 base b own mm' (xs.set n y) mv (.slice (some ⟨tb, 0, none⟩) (xs.set n y).length cap) ev)
    (he : mm'.put n { y.th with at_ := nx } = mm.act n x.th o a) (hc : Chg (fun k => own k ≠ 0 ∧ ¬ (5 ≤ own k ∧ own k % 3 = 2)) w w1) (hs : x.th.stops o = none) : WorkPost base b own mm xs tb cap n x o a w r w1 :=
  .inl ⟨hs, nx, own, mm', xs.set n y, y, mv, ev, hr, hm, by simp, set_at hx y, he, fun _ _ => rfl, hc⟩
/-- nothing has changed -/
theorem work_none {r : Ending} {o : OpD} {a nx : Int} {w1 : World} (hx : xs[n]? = some x) (hr : r = .returned (.int .i64 nx)) (hm : MAt w1 base b own mm xs mv (.slice (some ⟨tb, 0, none⟩) xs.length cap) ev)
    (he : mm.put n { x.th with at_ := nx } = mm.act n x.th o a) (hc : Chg (fun k => own k ≠ 0 ∧ ¬ (5 ≤ own k ∧ own k % 3 = 2)) w w1) (hs : x.th.stops o = none) : WorkPost base b own mm xs tb cap n x o a w r w1 :=
  .inl ⟨hs, nx, own, mm, xs, x, mv, ev, hr, hm, rfl, hx, he, fun _ _ => rfl, hc⟩
theorem cell_otherD {w : World} {a p : Addr} {u v : Value} (h : w.cell? a = some v) (hn : ¬ a.block = p.block) : (w.setCell p u).drew.cell? a = some v := by
  show (w.setCell p u).cell? a = some v
  rw [World.cell?_of_block (w := w) (Below.heap_setCell _ _ _ _ hn)]; exact h
theorem MAt.ringedS (h : MAt w base b own mm xs mv (.slice (some ⟨tb, 0, none⟩) xs.length cap) ev) (hx : xs[n]? = some x) (hc : Chg (fun k => k = x.bb) w w') {q : List (Int × Int)} {c : Array Value} {f : Nat} (hr : Ring w' x.bb q c f) :
    MAt w' base b own (mm.put n { x.th with wait := q }) (xs.set n { x with th := { x.th with wait := q } }) mv (.slice (some ⟨tb, 0, none⟩) (xs.set n { x with th := { x.th with wait := q } }).length cap) ev := by
  rw [List.length_set]
  exact h.ringed hx hc hr
theorem i64Info : (Tryz.prog.info? 2).map (fun i => (i.zero, i.size, i.bytes)) = some (some (.int .i64 0), 1, 8) := by kernel_rfl
theorem one_I (z : Int) : ∀ u ∈ encI z, u.oneCell' = true := by
  intro u hu
  simp [encI] at hu
  rcases hu with rfl
  rfl
/-- what load leaves -/
def LoadPost (base b : Nat) (own : Nat → Nat) (mm : MM) (xs : List TX) (mv ev : Value) (tb cap n : Nat) (x : TX) (ra : Nat) (v : Int) (w : World) (r : Ending) (w' : World) : Prop :=
  r = .returned (.int .i64 (x.th.at_ + 1)) ∧ MAt w' base b own (mm.put n { x.th with reg := upd x.th.reg ra v }) (xs.set n { x with th := { x.th with reg := upd x.th.reg ra v } }) mv (.slice (some ⟨tb, 0, none⟩) (xs.set n { x with th := { x.th with reg := upd x.th.reg ra v } }).length cap) ev ∧ Chg (fun k => own k ≠ 0 ∧ ¬ (5 ≤ own k ∧ own k % 3 = 2)) w w'
theorem chg_below {a0 a1 : World} (h : Below a0.heap.size a0 a1) : Chg (fun k => own k ≠ 0 ∧ ¬ (5 ≤ own k ∧ own k % 3 = 2)) a0 a1 := Chg.of_below h

set_option maxRecDepth 100000 in
set_option maxHeartbeats 2000000 in
theorem ins_set (h : MAt w base b own mm xs mv (.slice (some ⟨tb, 0, none⟩) xs.length cap) ev) (hx : xs[n]? = some x) {cal num : Int} {ra rb rc : Nat} (hra : ra < 8) (hrb : rb < 8) (hrc : rc < 8) (hat : 0 ≤ x.th.at_ ∧ x.th.at_ ≤ 262144) (a : Int) :
    Calls Tryz.prog 143 #[.pointer (some ⟨b, 0, none⟩), .pointer (some ⟨tb, n * 13, none⟩), .agg #[.int .u8 1, .int .u8 cal, .int .u8 (ra : Int), .int .u8 (rb : Int), .int .u8 (rc : Int), .int .i64 num], .int .i64 a] w (WorkPost base b own mm xs tb cap n x ⟨1, cal, ra, rb, rc, num⟩ a w) := by
  have hb0 : Below w.heap.size w (w.alloc (.cells #[.int .u8 1, .int .u8 cal, .int .u8 (ra : Int), .int .u8 (rb : Int), .int .u8 (rc : Int), .int .i64 num] 107)) := (Below.refl _ _).alloc (Nat.le_refl _) _
  have h0 := h.below hb0
  have hbox := block_new w (.cells #[.int .u8 1, .int .u8 cal, .int .u8 (ra : Int), .int .u8 (rb : Int), .int .u8 (rc : Int), .int .i64 num] 107)
  have d1 : ((w.alloc (.cells #[.int .u8 1, .int .u8 cal, .int .u8 (ra : Int), .int .u8 (rb : Int), .int .u8 (rc : Int), .int .i64 num] 107))).cell? ⟨w.heap.size, 1, none⟩ = some (.int .u8 cal) := cell_of_block hbox rfl
  have d2 : ((w.alloc (.cells #[.int .u8 1, .int .u8 cal, .int .u8 (ra : Int), .int .u8 (rb : Int), .int .u8 (rc : Int), .int .i64 num] 107))).cell? ⟨w.heap.size, 2, none⟩ = some (.int .u8 (ra : Int)) := cell_of_block hbox rfl
  have d3 : ((w.alloc (.cells #[.int .u8 1, .int .u8 cal, .int .u8 (ra : Int), .int .u8 (rb : Int), .int .u8 (rc : Int), .int .i64 num] 107))).cell? ⟨w.heap.size, 3, none⟩ = some (.int .u8 (rb : Int)) := cell_of_block hbox rfl
  have d4 : ((w.alloc (.cells #[.int .u8 1, .int .u8 cal, .int .u8 (ra : Int), .int .u8 (rb : Int), .int .u8 (rc : Int), .int .i64 num] 107))).cell? ⟨w.heap.size, 4, none⟩ = some (.int .u8 (rc : Int)) := cell_of_block hbox rfl
  have d5 : ((w.alloc (.cells #[.int .u8 1, .int .u8 cal, .int .u8 (ra : Int), .int .u8 (rb : Int), .int .u8 (rc : Int), .int .i64 num] 107))).cell? ⟨w.heap.size, 5, none⟩ = some (.int .i64 num) := cell_of_block hbox rfl
  have rA : ((w.alloc (.cells #[.int .u8 1, .int .u8 cal, .int .u8 (ra : Int), .int .u8 (rb : Int), .int .u8 (rc : Int), .int .i64 num] 107))).cell? ⟨tb, n * 13 + 1 + ra, none⟩ = some (.int .i64 (x.th.reg ra)) := by rw [Nat.add_assoc]; exact h0.cell hx _ _ (encX_reg x ra hra)
  have rB : ((w.alloc (.cells #[.int .u8 1, .int .u8 cal, .int .u8 (ra : Int), .int .u8 (rb : Int), .int .u8 (rc : Int), .int .i64 num] 107))).cell? ⟨tb, n * 13 + 1 + rb, none⟩ = some (.int .i64 (x.th.reg rb)) := by rw [Nat.add_assoc]; exact h0.cell hx _ _ (encX_reg x rb hrb)
  have rC : ((w.alloc (.cells #[.int .u8 1, .int .u8 cal, .int .u8 (ra : Int), .int .u8 (rb : Int), .int .u8 (rc : Int), .int .i64 num] 107))).cell? ⟨tb, n * 13 + 1 + rc, none⟩ = some (.int .i64 (x.th.reg rc)) := by rw [Nat.add_assoc]; exact h0.cell hx _ _ (encX_reg x rc hrc)
  have cAt : ((w.alloc (.cells #[.int .u8 1, .int .u8 cal, .int .u8 (ra : Int), .int .u8 (rb : Int), .int .u8 (rc : Int), .int .i64 num] 107))).cell? ⟨tb, n * 13 + 9, none⟩ = some (.int .i64 x.th.at_) := h0.cell hx 9 _ rfl
  have hws : w.heap.size < (w.alloc (.cells #[.int .u8 1, .int .u8 cal, .int .u8 (ra : Int), .int .u8 (rb : Int), .int .u8 (rc : Int), .int .i64 num] 107)).heap.size := by simp
  have hAi : (ra : Int) < 8 := by omega
  have hBi : (rb : Int) < 8 := by omega
  have hCi : (rc : Int) < 8 := by omega
  have hn : n < xs.length := (List.getElem?_eq_some_iff.1 hx).1
  have fT := h0.free (tb := tb) (by omega : 0 < xs.length)
  have fA := fT (n * 13 + 1 + ra)
  have fB := fT (n * 13 + 1 + rb)
  have hw1 : IntKind.i64.wrap (x.th.at_ + 1) = x.th.at_ + 1 := IntWalk.i64_in _ (by omega)
  have hsz : tb ≠ w.heap.size := by have := (rowLt h.ths (g := tb) rfl).2; omega
  have HS := hidI hsz
  have HX := hidI hx
  have H := hidI h
  have H0 := hidI h0
  have HB := hidI hb0
  clear h h0 hx hb0 hbox fT hat hsz
  go_enter Tryz.func143, Tryz.ntmps143
  go_wp2_with fail
  try generalize (w.alloc (.cells #[.int .u8 1, .int .u8 cal, .int .u8 (ra : Int), .int .u8 (rb : Int), .int .u8 (rc : Int), .int .i64 num] 107)) = w0 at H0 HB d1 d2 d3 d4 d5 rA rB rC cAt fA fB hws ⊢
  go_region
  have h2 := (H0.out.poke HX.out { x with th := { x.th with reg := upd x.th.reg ra (num) } } (1 + ra) (.int .i64 (num)) (by omega) (encX_setReg x (num) ra hra) rfl rfl rfl rfl rfl rfl).drew
  rw [← Nat.add_assoc] at h2
  have e9 := h2.cell (set_at HX.out _) 9 _ rfl
  have H2 := hidI h2
  clear h2 rA rB rC cAt fA fB
  simp only at e9
  go_wp2_with fail
  go_ret
  exact work_one HX.out rfl H2.out (by simp [MM.act, MM.put_put, MT.goes]) (HB.out |> fun h => Chg.then_ (Chg.of_below h) (((Chg.refl (fun k => k = tb) _).setCell (p := ⟨tb, _, none⟩) (.inl rfl) _).drew) (fun k _ e => by rw [e, H.out.thsT tb rfl]; decide)) (by simp [MT.stops])

set_option maxRecDepth 100000 in
set_option maxHeartbeats 2000000 in
theorem ins_move (h : MAt w base b own mm xs mv (.slice (some ⟨tb, 0, none⟩) xs.length cap) ev) (hx : xs[n]? = some x) {cal num : Int} {ra rb rc : Nat} (hra : ra < 8) (hrb : rb < 8) (hrc : rc < 8) (hat : 0 ≤ x.th.at_ ∧ x.th.at_ ≤ 262144) (a : Int) :
    Calls Tryz.prog 144 #[.pointer (some ⟨b, 0, none⟩), .pointer (some ⟨tb, n * 13, none⟩), .agg #[.int .u8 2, .int .u8 cal, .int .u8 (ra : Int), .int .u8 (rb : Int), .int .u8 (rc : Int), .int .i64 num], .int .i64 a] w (WorkPost base b own mm xs tb cap n x ⟨2, cal, ra, rb, rc, num⟩ a w) := by
  have hb0 : Below w.heap.size w (w.alloc (.cells #[.int .u8 2, .int .u8 cal, .int .u8 (ra : Int), .int .u8 (rb : Int), .int .u8 (rc : Int), .int .i64 num] 107)) := (Below.refl _ _).alloc (Nat.le_refl _) _
  have h0 := h.below hb0
  have hbox := block_new w (.cells #[.int .u8 2, .int .u8 cal, .int .u8 (ra : Int), .int .u8 (rb : Int), .int .u8 (rc : Int), .int .i64 num] 107)
  have d1 : ((w.alloc (.cells #[.int .u8 2, .int .u8 cal, .int .u8 (ra : Int), .int .u8 (rb : Int), .int .u8 (rc : Int), .int .i64 num] 107))).cell? ⟨w.heap.size, 1, none⟩ = some (.int .u8 cal) := cell_of_block hbox rfl
  have d2 : ((w.alloc (.cells #[.int .u8 2, .int .u8 cal, .int .u8 (ra : Int), .int .u8 (rb : Int), .int .u8 (rc : Int), .int .i64 num] 107))).cell? ⟨w.heap.size, 2, none⟩ = some (.int .u8 (ra : Int)) := cell_of_block hbox rfl
  have d3 : ((w.alloc (.cells #[.int .u8 2, .int .u8 cal, .int .u8 (ra : Int), .int .u8 (rb : Int), .int .u8 (rc : Int), .int .i64 num] 107))).cell? ⟨w.heap.size, 3, none⟩ = some (.int .u8 (rb : Int)) := cell_of_block hbox rfl
  have d4 : ((w.alloc (.cells #[.int .u8 2, .int .u8 cal, .int .u8 (ra : Int), .int .u8 (rb : Int), .int .u8 (rc : Int), .int .i64 num] 107))).cell? ⟨w.heap.size, 4, none⟩ = some (.int .u8 (rc : Int)) := cell_of_block hbox rfl
  have d5 : ((w.alloc (.cells #[.int .u8 2, .int .u8 cal, .int .u8 (ra : Int), .int .u8 (rb : Int), .int .u8 (rc : Int), .int .i64 num] 107))).cell? ⟨w.heap.size, 5, none⟩ = some (.int .i64 num) := cell_of_block hbox rfl
  have rA : ((w.alloc (.cells #[.int .u8 2, .int .u8 cal, .int .u8 (ra : Int), .int .u8 (rb : Int), .int .u8 (rc : Int), .int .i64 num] 107))).cell? ⟨tb, n * 13 + 1 + ra, none⟩ = some (.int .i64 (x.th.reg ra)) := by rw [Nat.add_assoc]; exact h0.cell hx _ _ (encX_reg x ra hra)
  have rB : ((w.alloc (.cells #[.int .u8 2, .int .u8 cal, .int .u8 (ra : Int), .int .u8 (rb : Int), .int .u8 (rc : Int), .int .i64 num] 107))).cell? ⟨tb, n * 13 + 1 + rb, none⟩ = some (.int .i64 (x.th.reg rb)) := by rw [Nat.add_assoc]; exact h0.cell hx _ _ (encX_reg x rb hrb)
  have rC : ((w.alloc (.cells #[.int .u8 2, .int .u8 cal, .int .u8 (ra : Int), .int .u8 (rb : Int), .int .u8 (rc : Int), .int .i64 num] 107))).cell? ⟨tb, n * 13 + 1 + rc, none⟩ = some (.int .i64 (x.th.reg rc)) := by rw [Nat.add_assoc]; exact h0.cell hx _ _ (encX_reg x rc hrc)
  have cAt : ((w.alloc (.cells #[.int .u8 2, .int .u8 cal, .int .u8 (ra : Int), .int .u8 (rb : Int), .int .u8 (rc : Int), .int .i64 num] 107))).cell? ⟨tb, n * 13 + 9, none⟩ = some (.int .i64 x.th.at_) := h0.cell hx 9 _ rfl
  have hws : w.heap.size < (w.alloc (.cells #[.int .u8 2, .int .u8 cal, .int .u8 (ra : Int), .int .u8 (rb : Int), .int .u8 (rc : Int), .int .i64 num] 107)).heap.size := by simp
  have hAi : (ra : Int) < 8 := by omega
  have hBi : (rb : Int) < 8 := by omega
  have hCi : (rc : Int) < 8 := by omega
  have hn : n < xs.length := (List.getElem?_eq_some_iff.1 hx).1
  have fT := h0.free (tb := tb) (by omega : 0 < xs.length)
  have fA := fT (n * 13 + 1 + ra)
  have fB := fT (n * 13 + 1 + rb)
  have hw1 : IntKind.i64.wrap (x.th.at_ + 1) = x.th.at_ + 1 := IntWalk.i64_in _ (by omega)
  have hsz : tb ≠ w.heap.size := by have := (rowLt h.ths (g := tb) rfl).2; omega
  have HS := hidI hsz
  have HX := hidI hx
  have H := hidI h
  have H0 := hidI h0
  have HB := hidI hb0
  clear h h0 hx hb0 hbox fT hat hsz
  go_enter Tryz.func144, Tryz.ntmps144
  go_wp2_with fail
  try generalize (w.alloc (.cells #[.int .u8 2, .int .u8 cal, .int .u8 (ra : Int), .int .u8 (rb : Int), .int .u8 (rc : Int), .int .i64 num] 107)) = w0 at H0 HB d1 d2 d3 d4 d5 rA rB rC cAt fA fB hws ⊢
  go_region
  have h2 := (H0.out.poke HX.out { x with th := { x.th with reg := upd x.th.reg ra (x.th.reg rb) } } (1 + ra) (.int .i64 (x.th.reg rb)) (by omega) (encX_setReg x (x.th.reg rb) ra hra) rfl rfl rfl rfl rfl rfl).drew
  rw [← Nat.add_assoc] at h2
  have e9 := h2.cell (set_at HX.out _) 9 _ rfl
  have H2 := hidI h2
  clear h2 rA rB rC cAt fA fB
  simp only at e9
  go_wp2_with fail
  go_ret
  exact work_one HX.out rfl H2.out (by simp [MM.act, MM.put_put, MT.goes, MT.r]) (HB.out |> fun h => Chg.then_ (Chg.of_below h) (((Chg.refl (fun k => k = tb) _).setCell (p := ⟨tb, _, none⟩) (.inl rfl) _).drew) (fun k _ e => by rw [e, H.out.thsT tb rfl]; decide)) (by simp [MT.stops])

set_option maxRecDepth 100000 in
set_option maxHeartbeats 2000000 in
theorem ins_jump (h : MAt w base b own mm xs mv (.slice (some ⟨tb, 0, none⟩) xs.length cap) ev) (hx : xs[n]? = some x) {cal num : Int} {ra rb rc : Nat} (hra : ra < 8) (hrb : rb < 8) (hrc : rc < 8) (hat : 0 ≤ x.th.at_ ∧ x.th.at_ ≤ 262144) (a : Int) (hj : 0 ≤ num ∧ num ≤ 262144) :
    Calls Tryz.prog 148 #[.pointer (some ⟨b, 0, none⟩), .pointer (some ⟨tb, n * 13, none⟩), .agg #[.int .u8 6, .int .u8 cal, .int .u8 (ra : Int), .int .u8 (rb : Int), .int .u8 (rc : Int), .int .i64 num], .int .i64 a] w (WorkPost base b own mm xs tb cap n x ⟨6, cal, ra, rb, rc, num⟩ a w) := by
  have hb0 : Below w.heap.size w (w.alloc (.cells #[.int .u8 6, .int .u8 cal, .int .u8 (ra : Int), .int .u8 (rb : Int), .int .u8 (rc : Int), .int .i64 num] 107)) := (Below.refl _ _).alloc (Nat.le_refl _) _
  have h0 := h.below hb0
  have hbox := block_new w (.cells #[.int .u8 6, .int .u8 cal, .int .u8 (ra : Int), .int .u8 (rb : Int), .int .u8 (rc : Int), .int .i64 num] 107)
  have d1 : ((w.alloc (.cells #[.int .u8 6, .int .u8 cal, .int .u8 (ra : Int), .int .u8 (rb : Int), .int .u8 (rc : Int), .int .i64 num] 107))).cell? ⟨w.heap.size, 1, none⟩ = some (.int .u8 cal) := cell_of_block hbox rfl
  have d2 : ((w.alloc (.cells #[.int .u8 6, .int .u8 cal, .int .u8 (ra : Int), .int .u8 (rb : Int), .int .u8 (rc : Int), .int .i64 num] 107))).cell? ⟨w.heap.size, 2, none⟩ = some (.int .u8 (ra : Int)) := cell_of_block hbox rfl
  have d3 : ((w.alloc (.cells #[.int .u8 6, .int .u8 cal, .int .u8 (ra : Int), .int .u8 (rb : Int), .int .u8 (rc : Int), .int .i64 num] 107))).cell? ⟨w.heap.size, 3, none⟩ = some (.int .u8 (rb : Int)) := cell_of_block hbox rfl
  have d4 : ((w.alloc (.cells #[.int .u8 6, .int .u8 cal, .int .u8 (ra : Int), .int .u8 (rb : Int), .int .u8 (rc : Int), .int .i64 num] 107))).cell? ⟨w.heap.size, 4, none⟩ = some (.int .u8 (rc : Int)) := cell_of_block hbox rfl
  have d5 : ((w.alloc (.cells #[.int .u8 6, .int .u8 cal, .int .u8 (ra : Int), .int .u8 (rb : Int), .int .u8 (rc : Int), .int .i64 num] 107))).cell? ⟨w.heap.size, 5, none⟩ = some (.int .i64 num) := cell_of_block hbox rfl
  have rA : ((w.alloc (.cells #[.int .u8 6, .int .u8 cal, .int .u8 (ra : Int), .int .u8 (rb : Int), .int .u8 (rc : Int), .int .i64 num] 107))).cell? ⟨tb, n * 13 + 1 + ra, none⟩ = some (.int .i64 (x.th.reg ra)) := by rw [Nat.add_assoc]; exact h0.cell hx _ _ (encX_reg x ra hra)
  have rB : ((w.alloc (.cells #[.int .u8 6, .int .u8 cal, .int .u8 (ra : Int), .int .u8 (rb : Int), .int .u8 (rc : Int), .int .i64 num] 107))).cell? ⟨tb, n * 13 + 1 + rb, none⟩ = some (.int .i64 (x.th.reg rb)) := by rw [Nat.add_assoc]; exact h0.cell hx _ _ (encX_reg x rb hrb)
  have rC : ((w.alloc (.cells #[.int .u8 6, .int .u8 cal, .int .u8 (ra : Int), .int .u8 (rb : Int), .int .u8 (rc : Int), .int .i64 num] 107))).cell? ⟨tb, n * 13 + 1 + rc, none⟩ = some (.int .i64 (x.th.reg rc)) := by rw [Nat.add_assoc]; exact h0.cell hx _ _ (encX_reg x rc hrc)
  have cAt : ((w.alloc (.cells #[.int .u8 6, .int .u8 cal, .int .u8 (ra : Int), .int .u8 (rb : Int), .int .u8 (rc : Int), .int .i64 num] 107))).cell? ⟨tb, n * 13 + 9, none⟩ = some (.int .i64 x.th.at_) := h0.cell hx 9 _ rfl
  have hws : w.heap.size < (w.alloc (.cells #[.int .u8 6, .int .u8 cal, .int .u8 (ra : Int), .int .u8 (rb : Int), .int .u8 (rc : Int), .int .i64 num] 107)).heap.size := by simp
  have hAi : (ra : Int) < 8 := by omega
  have hBi : (rb : Int) < 8 := by omega
  have hCi : (rc : Int) < 8 := by omega
  have hn : n < xs.length := (List.getElem?_eq_some_iff.1 hx).1
  have fT := h0.free (tb := tb) (by omega : 0 < xs.length)
  have fA := fT (n * 13 + 1 + ra)
  have fB := fT (n * 13 + 1 + rb)
  have hw1 : IntKind.i64.wrap (x.th.at_ + 1) = x.th.at_ + 1 := IntWalk.i64_in _ (by omega)
  have hsz : tb ≠ w.heap.size := by have := (rowLt h.ths (g := tb) rfl).2; omega
  have HS := hidI hsz
  have HX := hidI hx
  have H := hidI h
  have H0 := hidI h0
  have HB := hidI hb0
  clear h h0 hx hb0 hbox fT hat hsz
  go_enter Tryz.func148, Tryz.ntmps148
  go_wp2_with fail
  try generalize (w.alloc (.cells #[.int .u8 6, .int .u8 cal, .int .u8 (ra : Int), .int .u8 (rb : Int), .int .u8 (rc : Int), .int .i64 num] 107)) = w0 at H0 HB d1 d2 d3 d4 d5 rA rB rC cAt fA fB hws ⊢
  go_ret
  exact work_none HX.out rfl H0.out (by simp [MM.act]) (chg_below HB.out) (by simp [MT.stops])

set_option maxRecDepth 100000 in
set_option maxHeartbeats 2000000 in
theorem ins_fence (h : MAt w base b own mm xs mv (.slice (some ⟨tb, 0, none⟩) xs.length cap) ev) (hx : xs[n]? = some x) {cal num : Int} {ra rb rc : Nat} (hra : ra < 8) (hrb : rb < 8) (hrc : rc < 8) (hat : 0 ≤ x.th.at_ ∧ x.th.at_ ≤ 262144) (a : Int) :
    Calls Tryz.prog 152 #[.pointer (some ⟨b, 0, none⟩), .pointer (some ⟨tb, n * 13, none⟩), .agg #[.int .u8 10, .int .u8 cal, .int .u8 (ra : Int), .int .u8 (rb : Int), .int .u8 (rc : Int), .int .i64 num], .int .i64 a] w (WorkPost base b own mm xs tb cap n x ⟨10, cal, ra, rb, rc, num⟩ a w) := by
  have hb0 : Below w.heap.size w (w.alloc (.cells #[.int .u8 10, .int .u8 cal, .int .u8 (ra : Int), .int .u8 (rb : Int), .int .u8 (rc : Int), .int .i64 num] 107)) := (Below.refl _ _).alloc (Nat.le_refl _) _
  have h0 := h.below hb0
  have hbox := block_new w (.cells #[.int .u8 10, .int .u8 cal, .int .u8 (ra : Int), .int .u8 (rb : Int), .int .u8 (rc : Int), .int .i64 num] 107)
  have d1 : ((w.alloc (.cells #[.int .u8 10, .int .u8 cal, .int .u8 (ra : Int), .int .u8 (rb : Int), .int .u8 (rc : Int), .int .i64 num] 107))).cell? ⟨w.heap.size, 1, none⟩ = some (.int .u8 cal) := cell_of_block hbox rfl
  have d2 : ((w.alloc (.cells #[.int .u8 10, .int .u8 cal, .int .u8 (ra : Int), .int .u8 (rb : Int), .int .u8 (rc : Int), .int .i64 num] 107))).cell? ⟨w.heap.size, 2, none⟩ = some (.int .u8 (ra : Int)) := cell_of_block hbox rfl
  have d3 : ((w.alloc (.cells #[.int .u8 10, .int .u8 cal, .int .u8 (ra : Int), .int .u8 (rb : Int), .int .u8 (rc : Int), .int .i64 num] 107))).cell? ⟨w.heap.size, 3, none⟩ = some (.int .u8 (rb : Int)) := cell_of_block hbox rfl
  have d4 : ((w.alloc (.cells #[.int .u8 10, .int .u8 cal, .int .u8 (ra : Int), .int .u8 (rb : Int), .int .u8 (rc : Int), .int .i64 num] 107))).cell? ⟨w.heap.size, 4, none⟩ = some (.int .u8 (rc : Int)) := cell_of_block hbox rfl
  have d5 : ((w.alloc (.cells #[.int .u8 10, .int .u8 cal, .int .u8 (ra : Int), .int .u8 (rb : Int), .int .u8 (rc : Int), .int .i64 num] 107))).cell? ⟨w.heap.size, 5, none⟩ = some (.int .i64 num) := cell_of_block hbox rfl
  have rA : ((w.alloc (.cells #[.int .u8 10, .int .u8 cal, .int .u8 (ra : Int), .int .u8 (rb : Int), .int .u8 (rc : Int), .int .i64 num] 107))).cell? ⟨tb, n * 13 + 1 + ra, none⟩ = some (.int .i64 (x.th.reg ra)) := by rw [Nat.add_assoc]; exact h0.cell hx _ _ (encX_reg x ra hra)
  have rB : ((w.alloc (.cells #[.int .u8 10, .int .u8 cal, .int .u8 (ra : Int), .int .u8 (rb : Int), .int .u8 (rc : Int), .int .i64 num] 107))).cell? ⟨tb, n * 13 + 1 + rb, none⟩ = some (.int .i64 (x.th.reg rb)) := by rw [Nat.add_assoc]; exact h0.cell hx _ _ (encX_reg x rb hrb)
  have rC : ((w.alloc (.cells #[.int .u8 10, .int .u8 cal, .int .u8 (ra : Int), .int .u8 (rb : Int), .int .u8 (rc : Int), .int .i64 num] 107))).cell? ⟨tb, n * 13 + 1 + rc, none⟩ = some (.int .i64 (x.th.reg rc)) := by rw [Nat.add_assoc]; exact h0.cell hx _ _ (encX_reg x rc hrc)
  have cAt : ((w.alloc (.cells #[.int .u8 10, .int .u8 cal, .int .u8 (ra : Int), .int .u8 (rb : Int), .int .u8 (rc : Int), .int .i64 num] 107))).cell? ⟨tb, n * 13 + 9, none⟩ = some (.int .i64 x.th.at_) := h0.cell hx 9 _ rfl
  have hws : w.heap.size < (w.alloc (.cells #[.int .u8 10, .int .u8 cal, .int .u8 (ra : Int), .int .u8 (rb : Int), .int .u8 (rc : Int), .int .i64 num] 107)).heap.size := by simp
  have hAi : (ra : Int) < 8 := by omega
  have hBi : (rb : Int) < 8 := by omega
  have hCi : (rc : Int) < 8 := by omega
  have hn : n < xs.length := (List.getElem?_eq_some_iff.1 hx).1
  have fT := h0.free (tb := tb) (by omega : 0 < xs.length)
  have fA := fT (n * 13 + 1 + ra)
  have fB := fT (n * 13 + 1 + rb)
  have hw1 : IntKind.i64.wrap (x.th.at_ + 1) = x.th.at_ + 1 := IntWalk.i64_in _ (by omega)
  have hsz : tb ≠ w.heap.size := by have := (rowLt h.ths (g := tb) rfl).2; omega
  have HS := hidI hsz
  have HX := hidI hx
  have H := hidI h
  have H0 := hidI h0
  have HB := hidI hb0
  clear h h0 hx hb0 hbox fT hat hsz
  go_enter Tryz.func152, Tryz.ntmps152
  go_wp2_with fail
  try generalize (w.alloc (.cells #[.int .u8 10, .int .u8 cal, .int .u8 (ra : Int), .int .u8 (rb : Int), .int .u8 (rc : Int), .int .i64 num] 107)) = w0 at H0 HB d1 d2 d3 d4 d5 rA rB rC cAt fA fB hws ⊢
  go_ret
  exact work_none HX.out rfl H0.out (by simp [MM.act, MT.next]) (chg_below HB.out) (by simp [MT.stops])

set_option maxRecDepth 100000 in
set_option maxHeartbeats 2000000 in
theorem ins_zero (h : MAt w base b own mm xs mv (.slice (some ⟨tb, 0, none⟩) xs.length cap) ev) (hx : xs[n]? = some x) {cal num : Int} {ra rb rc : Nat} (hra : ra < 8) (hrb : rb < 8) (hrc : rc < 8) (hat : 0 ≤ x.th.at_ ∧ x.th.at_ ≤ 262144) (a : Int) (hj : 0 ≤ num ∧ num ≤ 262144) :
    Calls Tryz.prog 149 #[.pointer (some ⟨b, 0, none⟩), .pointer (some ⟨tb, n * 13, none⟩), .agg #[.int .u8 7, .int .u8 cal, .int .u8 (ra : Int), .int .u8 (rb : Int), .int .u8 (rc : Int), .int .i64 num], .int .i64 a] w (WorkPost base b own mm xs tb cap n x ⟨7, cal, ra, rb, rc, num⟩ a w) := by
  have hb0 : Below w.heap.size w (w.alloc (.cells #[.int .u8 7, .int .u8 cal, .int .u8 (ra : Int), .int .u8 (rb : Int), .int .u8 (rc : Int), .int .i64 num] 107)) := (Below.refl _ _).alloc (Nat.le_refl _) _
  have h0 := h.below hb0
  have hbox := block_new w (.cells #[.int .u8 7, .int .u8 cal, .int .u8 (ra : Int), .int .u8 (rb : Int), .int .u8 (rc : Int), .int .i64 num] 107)
  have d1 : ((w.alloc (.cells #[.int .u8 7, .int .u8 cal, .int .u8 (ra : Int), .int .u8 (rb : Int), .int .u8 (rc : Int), .int .i64 num] 107))).cell? ⟨w.heap.size, 1, none⟩ = some (.int .u8 cal) := cell_of_block hbox rfl
  have d2 : ((w.alloc (.cells #[.int .u8 7, .int .u8 cal, .int .u8 (ra : Int), .int .u8 (rb : Int), .int .u8 (rc : Int), .int .i64 num] 107))).cell? ⟨w.heap.size, 2, none⟩ = some (.int .u8 (ra : Int)) := cell_of_block hbox rfl
  have d3 : ((w.alloc (.cells #[.int .u8 7, .int .u8 cal, .int .u8 (ra : Int), .int .u8 (rb : Int), .int .u8 (rc : Int), .int .i64 num] 107))).cell? ⟨w.heap.size, 3, none⟩ = some (.int .u8 (rb : Int)) := cell_of_block hbox rfl
  have d4 : ((w.alloc (.cells #[.int .u8 7, .int .u8 cal, .int .u8 (ra : Int), .int .u8 (rb : Int), .int .u8 (rc : Int), .int .i64 num] 107))).cell? ⟨w.heap.size, 4, none⟩ = some (.int .u8 (rc : Int)) := cell_of_block hbox rfl
  have d5 : ((w.alloc (.cells #[.int .u8 7, .int .u8 cal, .int .u8 (ra : Int), .int .u8 (rb : Int), .int .u8 (rc : Int), .int .i64 num] 107))).cell? ⟨w.heap.size, 5, none⟩ = some (.int .i64 num) := cell_of_block hbox rfl
  have rA : ((w.alloc (.cells #[.int .u8 7, .int .u8 cal, .int .u8 (ra : Int), .int .u8 (rb : Int), .int .u8 (rc : Int), .int .i64 num] 107))).cell? ⟨tb, n * 13 + 1 + ra, none⟩ = some (.int .i64 (x.th.reg ra)) := by rw [Nat.add_assoc]; exact h0.cell hx _ _ (encX_reg x ra hra)
  have rB : ((w.alloc (.cells #[.int .u8 7, .int .u8 cal, .int .u8 (ra : Int), .int .u8 (rb : Int), .int .u8 (rc : Int), .int .i64 num] 107))).cell? ⟨tb, n * 13 + 1 + rb, none⟩ = some (.int .i64 (x.th.reg rb)) := by rw [Nat.add_assoc]; exact h0.cell hx _ _ (encX_reg x rb hrb)
  have rC : ((w.alloc (.cells #[.int .u8 7, .int .u8 cal, .int .u8 (ra : Int), .int .u8 (rb : Int), .int .u8 (rc : Int), .int .i64 num] 107))).cell? ⟨tb, n * 13 + 1 + rc, none⟩ = some (.int .i64 (x.th.reg rc)) := by rw [Nat.add_assoc]; exact h0.cell hx _ _ (encX_reg x rc hrc)
  have cAt : ((w.alloc (.cells #[.int .u8 7, .int .u8 cal, .int .u8 (ra : Int), .int .u8 (rb : Int), .int .u8 (rc : Int), .int .i64 num] 107))).cell? ⟨tb, n * 13 + 9, none⟩ = some (.int .i64 x.th.at_) := h0.cell hx 9 _ rfl
  have hws : w.heap.size < (w.alloc (.cells #[.int .u8 7, .int .u8 cal, .int .u8 (ra : Int), .int .u8 (rb : Int), .int .u8 (rc : Int), .int .i64 num] 107)).heap.size := by simp
  have hAi : (ra : Int) < 8 := by omega
  have hBi : (rb : Int) < 8 := by omega
  have hCi : (rc : Int) < 8 := by omega
  have hn : n < xs.length := (List.getElem?_eq_some_iff.1 hx).1
  have fT := h0.free (tb := tb) (by omega : 0 < xs.length)
  have fA := fT (n * 13 + 1 + ra)
  have fB := fT (n * 13 + 1 + rb)
  have hw1 : IntKind.i64.wrap (x.th.at_ + 1) = x.th.at_ + 1 := IntWalk.i64_in _ (by omega)
  have hsz : tb ≠ w.heap.size := by have := (rowLt h.ths (g := tb) rfl).2; omega
  have HS := hidI hsz
  have HX := hidI hx
  have H := hidI h
  have H0 := hidI h0
  have HB := hidI hb0
  clear h h0 hx hb0 hbox fT hat hsz
  by_cases hz : x.th.reg ra = 0
  · rw [hz] at rA
    have HZ := hidI hz
    clear hz
    go_enter Tryz.func149, Tryz.ntmps149
    go_wp2_with fail
    try generalize (w.alloc (.cells #[.int .u8 7, .int .u8 cal, .int .u8 (ra : Int), .int .u8 (rb : Int), .int .u8 (rc : Int), .int .i64 num] 107)) = w0 at H0 HB d1 d2 d3 d4 d5 rA rB rC cAt fA fB hws ⊢
    go_quiet (fail)
    go_wp2_with fail
    go_ret
    exact work_none HX.out rfl (H0.out.drewN _) (by simp [MM.act, MT.r, HZ.out]) ((chg_below HB.out).drewN _) (by simp [MT.stops])
  · have hz1 : (x.th.reg ra == 0) = false := by rw [beq_eq_false_iff_ne]; exact hz
    go_enter Tryz.func149, Tryz.ntmps149
    go_wp2_with fail
    try generalize (w.alloc (.cells #[.int .u8 7, .int .u8 cal, .int .u8 (ra : Int), .int .u8 (rb : Int), .int .u8 (rc : Int), .int .i64 num] 107)) = w0 at H0 HB d1 d2 d3 d4 d5 rA rB rC cAt fA fB hws ⊢
    go_quiet (fail)
    go_wp2_with fail
    go_ret
    exact work_none HX.out rfl (H0.out.drewN _) (by simp [MM.act, MT.r, hz]) ((chg_below HB.out).drewN _) (by simp [MT.stops])

set_option maxRecDepth 100000 in
set_option maxHeartbeats 2000000 in
theorem ins_xadd (h : MAt w base b own mm xs mv (.slice (some ⟨tb, 0, none⟩) xs.length cap) ev) (hx : xs[n]? = some x) {cal num : Int} {ra rb rc : Nat} (hra : ra < 8) (hrb : rb < 8) (hrc : rc < 8) (hat : 0 ≤ x.th.at_ ∧ x.th.at_ ≤ 262144) {a : Nat} (ha : a < mm.mem.length) :
    Calls Tryz.prog 151 #[.pointer (some ⟨b, 0, none⟩), .pointer (some ⟨tb, n * 13, none⟩), .agg #[.int .u8 9, .int .u8 cal, .int .u8 (ra : Int), .int .u8 (rb : Int), .int .u8 (rc : Int), .int .i64 num], .int .i64 (a : Int)] w (WorkPost base b own mm xs tb cap n x ⟨9, cal, ra, rb, rc, num⟩ (a : Int) w) := by
  obtain ⟨mb, mc, rfl, hmb⟩ := h.mslice (by omega)
  have hb0 : Below w.heap.size w (w.alloc (.cells #[.int .u8 9, .int .u8 cal, .int .u8 (ra : Int), .int .u8 (rb : Int), .int .u8 (rc : Int), .int .i64 num] 107)) := (Below.refl _ _).alloc (Nat.le_refl _) _
  have h0 := h.below hb0
  have hbox := block_new w (.cells #[.int .u8 9, .int .u8 cal, .int .u8 (ra : Int), .int .u8 (rb : Int), .int .u8 (rc : Int), .int .i64 num] 107)
  have d1 : ((w.alloc (.cells #[.int .u8 9, .int .u8 cal, .int .u8 (ra : Int), .int .u8 (rb : Int), .int .u8 (rc : Int), .int .i64 num] 107))).cell? ⟨w.heap.size, 1, none⟩ = some (.int .u8 cal) := cell_of_block hbox rfl
  have d2 : ((w.alloc (.cells #[.int .u8 9, .int .u8 cal, .int .u8 (ra : Int), .int .u8 (rb : Int), .int .u8 (rc : Int), .int .i64 num] 107))).cell? ⟨w.heap.size, 2, none⟩ = some (.int .u8 (ra : Int)) := cell_of_block hbox rfl
  have d3 : ((w.alloc (.cells #[.int .u8 9, .int .u8 cal, .int .u8 (ra : Int), .int .u8 (rb : Int), .int .u8 (rc : Int), .int .i64 num] 107))).cell? ⟨w.heap.size, 3, none⟩ = some (.int .u8 (rb : Int)) := cell_of_block hbox rfl
  have d4 : ((w.alloc (.cells #[.int .u8 9, .int .u8 cal, .int .u8 (ra : Int), .int .u8 (rb : Int), .int .u8 (rc : Int), .int .i64 num] 107))).cell? ⟨w.heap.size, 4, none⟩ = some (.int .u8 (rc : Int)) := cell_of_block hbox rfl
  have d5 : ((w.alloc (.cells #[.int .u8 9, .int .u8 cal, .int .u8 (ra : Int), .int .u8 (rb : Int), .int .u8 (rc : Int), .int .i64 num] 107))).cell? ⟨w.heap.size, 5, none⟩ = some (.int .i64 num) := cell_of_block hbox rfl
  have rA : ((w.alloc (.cells #[.int .u8 9, .int .u8 cal, .int .u8 (ra : Int), .int .u8 (rb : Int), .int .u8 (rc : Int), .int .i64 num] 107))).cell? ⟨tb, n * 13 + 1 + ra, none⟩ = some (.int .i64 (x.th.reg ra)) := by rw [Nat.add_assoc]; exact h0.cell hx _ _ (encX_reg x ra hra)
  have rB : ((w.alloc (.cells #[.int .u8 9, .int .u8 cal, .int .u8 (ra : Int), .int .u8 (rb : Int), .int .u8 (rc : Int), .int .i64 num] 107))).cell? ⟨tb, n * 13 + 1 + rb, none⟩ = some (.int .i64 (x.th.reg rb)) := by rw [Nat.add_assoc]; exact h0.cell hx _ _ (encX_reg x rb hrb)
  have rC : ((w.alloc (.cells #[.int .u8 9, .int .u8 cal, .int .u8 (ra : Int), .int .u8 (rb : Int), .int .u8 (rc : Int), .int .i64 num] 107))).cell? ⟨tb, n * 13 + 1 + rc, none⟩ = some (.int .i64 (x.th.reg rc)) := by rw [Nat.add_assoc]; exact h0.cell hx _ _ (encX_reg x rc hrc)
  have cAt : ((w.alloc (.cells #[.int .u8 9, .int .u8 cal, .int .u8 (ra : Int), .int .u8 (rb : Int), .int .u8 (rc : Int), .int .i64 num] 107))).cell? ⟨tb, n * 13 + 9, none⟩ = some (.int .i64 x.th.at_) := h0.cell hx 9 _ rfl
  have hws : w.heap.size < (w.alloc (.cells #[.int .u8 9, .int .u8 cal, .int .u8 (ra : Int), .int .u8 (rb : Int), .int .u8 (rc : Int), .int .i64 num] 107)).heap.size := by simp
  have hAi : (ra : Int) < 8 := by omega
  have hBi : (rb : Int) < 8 := by omega
  have hCi : (rc : Int) < 8 := by omega
  have hn : n < xs.length := (List.getElem?_eq_some_iff.1 hx).1
  have fT := h0.free (tb := tb) (by omega : 0 < xs.length)
  have fA := fT (n * 13 + 1 + ra)
  have fB := fT (n * 13 + 1 + rb)
  have hw1 : IntKind.i64.wrap (x.th.at_ + 1) = x.th.at_ + 1 := IntWalk.i64_in _ (by omega)
  have hsz : tb ≠ w.heap.size := by have := (rowLt h.ths (g := tb) rfl).2; omega
  have HS := hidI hsz
  have HX := hidI hx
  have H := hidI h
  have H0 := hidI h0
  have HB := hidI hb0
  have c1 := h0.wcell 1 _ rfl
  obtain ⟨M0, hM0⟩ : ∃ M0, mm.mem.getD a 0 = M0 := ⟨_, rfl⟩
  have cM := h0.mcell ha
  rw [hM0] at cM
  have HM0 := hidI (show mm.at (a : Int) = M0 from hM0)
  clear hM0
  have fM := h0.mfree (by omega : 0 < mm.mem.length) a
  obtain ⟨V, hV⟩ : ∃ V, V = w64 (M0 + x.th.reg rb) := ⟨_, rfl⟩
  have eV : IntKind.i64.wrap (M0 + x.th.reg rb) = V := by rw [hV]; exact w64_wrap _
  have HV := hidI hV
  clear hV
  have hms : ¬ w.heap.size = mb := by have := (rowLt h.mem (g := mb) rfl).2; omega
  clear h h0 hx hb0 hbox fT hat hsz
  go_enter Tryz.func151, Tryz.ntmps151
  go_wp2_with fail
  try generalize (w.alloc (.cells #[.int .u8 9, .int .u8 cal, .int .u8 (ra : Int), .int .u8 (rb : Int), .int .u8 (rc : Int), .int .i64 num] 107)) = w0 at H0 HB d1 d2 d3 d4 d5 rA rB rC cAt fA fB hws c1 cM fM ⊢
  go_region
  have h2 := (H0.out.word ha (V)).drew
  have g3 : (w0.setCell ⟨mb, a, none⟩ (.int .i64 (V))).drew.cell? ⟨w.heap.size, 3, none⟩ = some (.int .u8 (rb : Int)) := cell_otherD d3 hms
  have H2 := hidI h2
  have HC2 := hidI (Chg.then_ (S := fun k => own k ≠ 0 ∧ ¬ (5 ≤ own k ∧ own k % 3 = 2)) (Chg.of_below HB.out) (((Chg.refl (fun k => k = mb) w0).setCell (p := ⟨mb, a, none⟩) (.inl rfl) (.int .i64 (V))).drew) (fun k _ e => by rw [e, hmb]; decide))
  clear h2 rA rB rC cAt fA fB c1 cM fM d1 d2 d3 d4 d5
  generalize (w0.setCell ⟨mb, a, none⟩ (.int .i64 (V))).drew = w2 at H2 HC2 g3 ⊢
  have q2 := H2.out.cell HX.out (1 + rb) _ (encX_reg x rb hrb)
  rw [← Nat.add_assoc] at q2
  have q3 := H2.out.free (tb := tb) (by omega : 0 < xs.length) (n * 13 + 1 + rb)
  go_wp2_with fail
  go_region
  have h3 := (H2.out.poke HX.out { x with th := { x.th with reg := upd x.th.reg rb M0 } } (1 + rb) (.int .i64 M0) (by omega) (encX_setReg x M0 rb hrb) rfl rfl rfl rfl rfl rfl).drew
  rw [← Nat.add_assoc] at h3
  have e9 := h3.cell (set_at HX.out _) 9 _ rfl
  have H3 := hidI h3
  have HC3 := hidI (Chg.then_ (S := fun k => own k ≠ 0 ∧ ¬ (5 ≤ own k ∧ own k % 3 = 2)) HC2.out (((Chg.refl (fun k => k = tb) w2).setCell (p := ⟨tb, n * 13 + 1 + rb, none⟩) (.inl rfl) (.int .i64 M0)).drew) (fun k _ e => by rw [e, H.out.thsT tb rfl]; decide))
  clear h3 q2 q3
  simp only at e9
  go_wp2_with fail
  go_ret
  refine work_one HX.out rfl H3.out ?_ HC3.out (by simp [MT.stops])
  rw [HV.out]
  simp [MM.act, MM.put, MT.goes, MT.r, HM0.out]

set_option maxRecDepth 100000 in
set_option maxHeartbeats 2000000 in
theorem ins_load {kd : Int} (h : MAt w base b own mm xs mv (.slice (some ⟨tb, 0, none⟩) xs.length cap) ev) (hx : xs[n]? = some x) {cal num : Int} {ra rb rc : Nat} (hra : ra < 8) (hrb : rb < 8) (hrc : rc < 8) (hat : 0 ≤ x.th.at_ ∧ x.th.at_ ≤ 262144) {a : Nat} (ha : a < mm.mem.length) :
    Calls Tryz.prog 146 #[.pointer (some ⟨b, 0, none⟩), .pointer (some ⟨tb, n * 13, none⟩), .agg #[.int .u8 kd, .int .u8 cal, .int .u8 (ra : Int), .int .u8 (rb : Int), .int .u8 (rc : Int), .int .i64 num], .int .i64 (a : Int)] w (LoadPost base b own mm xs mv ev tb cap n x ra (mm.found x.th a) w) := by
  obtain ⟨mb, mc, rfl, hmb⟩ := h.mslice (by omega)
  have hb0 : Below w.heap.size w (w.alloc (.cells #[.int .u8 kd, .int .u8 cal, .int .u8 (ra : Int), .int .u8 (rb : Int), .int .u8 (rc : Int), .int .i64 num] 107)) := (Below.refl _ _).alloc (Nat.le_refl _) _
  have h0 := h.below hb0
  have hbox := block_new w (.cells #[.int .u8 kd, .int .u8 cal, .int .u8 (ra : Int), .int .u8 (rb : Int), .int .u8 (rc : Int), .int .i64 num] 107)
  have d1 : ((w.alloc (.cells #[.int .u8 kd, .int .u8 cal, .int .u8 (ra : Int), .int .u8 (rb : Int), .int .u8 (rc : Int), .int .i64 num] 107))).cell? ⟨w.heap.size, 1, none⟩ = some (.int .u8 cal) := cell_of_block hbox rfl
  have d2 : ((w.alloc (.cells #[.int .u8 kd, .int .u8 cal, .int .u8 (ra : Int), .int .u8 (rb : Int), .int .u8 (rc : Int), .int .i64 num] 107))).cell? ⟨w.heap.size, 2, none⟩ = some (.int .u8 (ra : Int)) := cell_of_block hbox rfl
  have d3 : ((w.alloc (.cells #[.int .u8 kd, .int .u8 cal, .int .u8 (ra : Int), .int .u8 (rb : Int), .int .u8 (rc : Int), .int .i64 num] 107))).cell? ⟨w.heap.size, 3, none⟩ = some (.int .u8 (rb : Int)) := cell_of_block hbox rfl
  have d4 : ((w.alloc (.cells #[.int .u8 kd, .int .u8 cal, .int .u8 (ra : Int), .int .u8 (rb : Int), .int .u8 (rc : Int), .int .i64 num] 107))).cell? ⟨w.heap.size, 4, none⟩ = some (.int .u8 (rc : Int)) := cell_of_block hbox rfl
  have d5 : ((w.alloc (.cells #[.int .u8 kd, .int .u8 cal, .int .u8 (ra : Int), .int .u8 (rb : Int), .int .u8 (rc : Int), .int .i64 num] 107))).cell? ⟨w.heap.size, 5, none⟩ = some (.int .i64 num) := cell_of_block hbox rfl
  have rA : ((w.alloc (.cells #[.int .u8 kd, .int .u8 cal, .int .u8 (ra : Int), .int .u8 (rb : Int), .int .u8 (rc : Int), .int .i64 num] 107))).cell? ⟨tb, n * 13 + 1 + ra, none⟩ = some (.int .i64 (x.th.reg ra)) := by rw [Nat.add_assoc]; exact h0.cell hx _ _ (encX_reg x ra hra)
  have rB : ((w.alloc (.cells #[.int .u8 kd, .int .u8 cal, .int .u8 (ra : Int), .int .u8 (rb : Int), .int .u8 (rc : Int), .int .i64 num] 107))).cell? ⟨tb, n * 13 + 1 + rb, none⟩ = some (.int .i64 (x.th.reg rb)) := by rw [Nat.add_assoc]; exact h0.cell hx _ _ (encX_reg x rb hrb)
  have rC : ((w.alloc (.cells #[.int .u8 kd, .int .u8 cal, .int .u8 (ra : Int), .int .u8 (rb : Int), .int .u8 (rc : Int), .int .i64 num] 107))).cell? ⟨tb, n * 13 + 1 + rc, none⟩ = some (.int .i64 (x.th.reg rc)) := by rw [Nat.add_assoc]; exact h0.cell hx _ _ (encX_reg x rc hrc)
  have cAt : ((w.alloc (.cells #[.int .u8 kd, .int .u8 cal, .int .u8 (ra : Int), .int .u8 (rb : Int), .int .u8 (rc : Int), .int .i64 num] 107))).cell? ⟨tb, n * 13 + 9, none⟩ = some (.int .i64 x.th.at_) := h0.cell hx 9 _ rfl
  have hws : w.heap.size < (w.alloc (.cells #[.int .u8 kd, .int .u8 cal, .int .u8 (ra : Int), .int .u8 (rb : Int), .int .u8 (rc : Int), .int .i64 num] 107)).heap.size := by simp
  have hAi : (ra : Int) < 8 := by omega
  have hBi : (rb : Int) < 8 := by omega
  have hCi : (rc : Int) < 8 := by omega
  have hn : n < xs.length := (List.getElem?_eq_some_iff.1 hx).1
  have fT := h0.free (tb := tb) (by omega : 0 < xs.length)
  have fA := fT (n * 13 + 1 + ra)
  have fB := fT (n * 13 + 1 + rb)
  have hw1 : IntKind.i64.wrap (x.th.at_ + 1) = x.th.at_ + 1 := IntWalk.i64_in _ (by omega)
  have hsz : tb ≠ w.heap.size := by have := (rowLt h.ths (g := tb) rfl).2; omega
  have HS := hidI hsz
  have HX := hidI hx
  have H := hidI h
  have H0 := hidI h0
  have HB := hidI hb0
  have c1 := h0.wcell 1 _ rfl
  obtain ⟨M0, hM0⟩ : ∃ M0, mm.mem.getD a 0 = M0 := ⟨_, rfl⟩
  have cM := h0.mcell ha
  rw [hM0] at cM
  have HM0 := hidI (show mm.at (a : Int) = M0 from hM0)
  clear hM0
  have fM := h0.mfree (by omega : 0 < mm.mem.length) a
  obtain ⟨rc0, rf0, hring⟩ := (h0.th n x hx).ring
  have HRING := hidI hring
  have cW : (w.alloc (.cells #[.int .u8 kd, .int .u8 cal, .int .u8 (ra : Int), .int .u8 (rb : Int), .int .u8 (rc : Int), .int .i64 num] 107)).cell? ⟨tb, n * 13 + 10, none⟩ = some (.pointer (some ⟨x.bb, 0, none⟩)) := h0.cell hx 10 _ rfl
  clear h h0 hx hb0 hbox fT hat hsz
  go_enter Tryz.func146, Tryz.ntmps146
  go_wp2_with fail
  try generalize (w.alloc (.cells #[.int .u8 kd, .int .u8 cal, .int .u8 (ra : Int), .int .u8 (rb : Int), .int .u8 (rc : Int), .int .i64 num] 107)) = w0 at H0 HB d1 d2 d3 d4 d5 rA rB rC cAt fA fB hws c1 cM fM HRING cW ⊢
  refine (find_yes HRING.out (a : Int)).mono ?_
  rintro r w1 ⟨rfl, nq, rfl⟩
  cases hf : findS x.th.wait a with
  | some v =>
    rw [show findV x.th.wait a = .tuple #[.int .i64 v, .bool true] from by unfold findV; rw [hf]]
    have HF := hidI (show mm.found x.th a = v from by unfold MM.found; rw [hf]; rfl)
    clear hf
    go_wp2_with fail
    have d2' : (w0.drewN nq).cell? ⟨w.heap.size, 2, none⟩ = some (.int .u8 (ra : Int)) := d2
    have d3' : (w0.drewN nq).cell? ⟨w.heap.size, 3, none⟩ = some (.int .u8 (rb : Int)) := d3
    have d4' : (w0.drewN nq).cell? ⟨w.heap.size, 4, none⟩ = some (.int .u8 (rc : Int)) := d4
    have rA' : (w0.drewN nq).cell? ⟨tb, n * 13 + 1 + ra, none⟩ = some (.int .i64 (x.th.reg ra)) := rA
    have rB' : (w0.drewN nq).cell? ⟨tb, n * 13 + 1 + rb, none⟩ = some (.int .i64 (x.th.reg rb)) := rB
    have rC' : (w0.drewN nq).cell? ⟨tb, n * 13 + 1 + rc, none⟩ = some (.int .i64 (x.th.reg rc)) := rC
    have c1' : (w0.drewN nq).cell? ⟨b, 1, none⟩ = some (.slice (some ⟨mb, 0, none⟩) mm.mem.length mc) := c1
    have cM' : (w0.drewN nq).cell? ⟨mb, a, none⟩ = some (.int .i64 M0) := cM
    have fA' : (w0.drewN nq).frozen? ⟨tb, n * 13 + 1 + ra, none⟩ = false := fA
    have fB' : (w0.drewN nq).frozen? ⟨tb, n * 13 + 1 + rb, none⟩ = false := fB
    have fM' : (w0.drewN nq).frozen? ⟨mb, a, none⟩ = false := fM
    have H1 := hidI (H0.out.drewN nq)
    have HB1 := hidI (below_drewN HB.out nq)
    clear d1 d5 cAt H0 HB hws d2 d3 d4 rA rB rC c1 cM fA fB fM HRING cW
    generalize w0.drewN nq = w1 at H1 HB1 d2' d3' d4' rA' rB' rC' c1' cM' fA' fB' fM' ⊢
    go_region
    have h2 := (H1.out.poke HX.out { x with th := { x.th with reg := upd x.th.reg ra (v) } } (1 + ra) (.int .i64 (v)) (by omega) (encX_setReg x (v) ra hra) rfl rfl rfl rfl rfl rfl).drew
    rw [← Nat.add_assoc] at h2
    have e9 := h2.cell (set_at HX.out _) 9 _ rfl
    have H2 := hidI h2
    have HC2 := hidI (Chg.then_ (S := fun k => own k ≠ 0 ∧ ¬ (5 ≤ own k ∧ own k % 3 = 2)) (Chg.of_below HB1.out) (((Chg.refl (fun k => k = tb) w1).setCell (p := ⟨tb, n * 13 + 1 + ra, none⟩) (.inl rfl) (.int .i64 (v))).drew) (fun k _ e => by rw [e, H.out.thsT tb rfl]; decide))
    clear h2
    simp only at e9
    go_wp2_with fail
    go_ret
    exact ⟨rfl, by rw [HF.out]; exact H2.out, HC2.out⟩
  | none =>
    rw [show findV x.th.wait a = .tuple #[.int .i64 0, .bool false] from by unfold findV; rw [hf]]
    have HF := hidI (show mm.found x.th a = M0 from by unfold MM.found; rw [hf, HM0.out]; rfl)
    clear hf
    go_wp2_with fail
    have d2' : (w0.drewN nq).cell? ⟨w.heap.size, 2, none⟩ = some (.int .u8 (ra : Int)) := d2
    have d3' : (w0.drewN nq).cell? ⟨w.heap.size, 3, none⟩ = some (.int .u8 (rb : Int)) := d3
    have d4' : (w0.drewN nq).cell? ⟨w.heap.size, 4, none⟩ = some (.int .u8 (rc : Int)) := d4
    have rA' : (w0.drewN nq).cell? ⟨tb, n * 13 + 1 + ra, none⟩ = some (.int .i64 (x.th.reg ra)) := rA
    have rB' : (w0.drewN nq).cell? ⟨tb, n * 13 + 1 + rb, none⟩ = some (.int .i64 (x.th.reg rb)) := rB
    have rC' : (w0.drewN nq).cell? ⟨tb, n * 13 + 1 + rc, none⟩ = some (.int .i64 (x.th.reg rc)) := rC
    have c1' : (w0.drewN nq).cell? ⟨b, 1, none⟩ = some (.slice (some ⟨mb, 0, none⟩) mm.mem.length mc) := c1
    have cM' : (w0.drewN nq).cell? ⟨mb, a, none⟩ = some (.int .i64 M0) := cM
    have fA' : (w0.drewN nq).frozen? ⟨tb, n * 13 + 1 + ra, none⟩ = false := fA
    have fB' : (w0.drewN nq).frozen? ⟨tb, n * 13 + 1 + rb, none⟩ = false := fB
    have fM' : (w0.drewN nq).frozen? ⟨mb, a, none⟩ = false := fM
    have H1 := hidI (H0.out.drewN nq)
    have HB1 := hidI (below_drewN HB.out nq)
    clear d1 d5 cAt H0 HB hws d2 d3 d4 rA rB rC c1 cM fA fB fM HRING cW
    generalize w0.drewN nq = w1 at H1 HB1 d2' d3' d4' rA' rB' rC' c1' cM' fA' fB' fM' ⊢
    go_region
    have h2 := (H1.out.poke HX.out { x with th := { x.th with reg := upd x.th.reg ra (M0) } } (1 + ra) (.int .i64 (M0)) (by omega) (encX_setReg x (M0) ra hra) rfl rfl rfl rfl rfl rfl).drew
    rw [← Nat.add_assoc] at h2
    have e9 := h2.cell (set_at HX.out _) 9 _ rfl
    have H2 := hidI h2
    have HC2 := hidI (Chg.then_ (S := fun k => own k ≠ 0 ∧ ¬ (5 ≤ own k ∧ own k % 3 = 2)) (Chg.of_below HB1.out) (((Chg.refl (fun k => k = tb) w1).setCell (p := ⟨tb, n * 13 + 1 + ra, none⟩) (.inl rfl) (.int .i64 (M0))).drew) (fun k _ e => by rw [e, H.out.thsT tb rfl]; decide))
    clear h2
    simp only at e9
    go_wp2_with fail
    go_ret
    exact ⟨rfl, by rw [HF.out]; exact H2.out, HC2.out⟩

theorem ins_load4 (h : MAt w base b own mm xs mv (.slice (some ⟨tb, 0, none⟩) xs.length cap) ev) (hx : xs[n]? = some x) {cal num : Int} {ra rb rc : Nat} (hra : ra < 8) (hrb : rb < 8) (hrc : rc < 8) (hat : 0 ≤ x.th.at_ ∧ x.th.at_ ≤ 262144) {a : Nat} (ha : a < mm.mem.length) :
    Calls Tryz.prog 146 #[.pointer (some ⟨b, 0, none⟩), .pointer (some ⟨tb, n * 13, none⟩), .agg #[.int .u8 4, .int .u8 cal, .int .u8 (ra : Int), .int .u8 (rb : Int), .int .u8 (rc : Int), .int .i64 num], .int .i64 (a : Int)] w (WorkPost base b own mm xs tb cap n x ⟨4, cal, ra, rb, rc, num⟩ (a : Int) w) := by
  refine (ins_load h hx hra hrb hrc hat ha).mono ?_
  rintro r w1 ⟨rfl, hm, hc⟩
  exact work_one hx rfl hm (by simp [MM.act, MM.put, MT.goes]) hc (by simp [MT.stops])

set_option maxRecDepth 100000 in
set_option maxHeartbeats 2000000 in
theorem ins_look (h : MAt w base b own mm xs mv (.slice (some ⟨tb, 0, none⟩) xs.length cap) ev) (hx : xs[n]? = some x) {cal num : Int} {ra rb rc : Nat} (hra : ra < 8) (hrb : rb < 8) (hrc : rc < 8) (hat : 0 ≤ x.th.at_ ∧ x.th.at_ ≤ 262144) {a : Nat} (ha : a < mm.mem.length) (hev : mm.evs.length < 1000000000) (h4 : xs.length ≤ 4) :
    Calls Tryz.prog 157 #[.pointer (some ⟨b, 0, none⟩), .pointer (some ⟨tb, n * 13, none⟩), .agg #[.int .u8 15, .int .u8 cal, .int .u8 (ra : Int), .int .u8 (rb : Int), .int .u8 (rc : Int), .int .i64 num], .int .i64 (a : Int)] w (WorkPost base b own mm xs tb cap n x ⟨15, cal, ra, rb, rc, num⟩ (a : Int) w) := by
  obtain ⟨mb, mc, rfl, hmb⟩ := h.mslice (by omega)
  have hb0 : Below w.heap.size w (w.alloc (.cells #[.int .u8 15, .int .u8 cal, .int .u8 (ra : Int), .int .u8 (rb : Int), .int .u8 (rc : Int), .int .i64 num] 107)) := (Below.refl _ _).alloc (Nat.le_refl _) _
  have h0 := h.below hb0
  have hbox := block_new w (.cells #[.int .u8 15, .int .u8 cal, .int .u8 (ra : Int), .int .u8 (rb : Int), .int .u8 (rc : Int), .int .i64 num] 107)
  have d1 : ((w.alloc (.cells #[.int .u8 15, .int .u8 cal, .int .u8 (ra : Int), .int .u8 (rb : Int), .int .u8 (rc : Int), .int .i64 num] 107))).cell? ⟨w.heap.size, 1, none⟩ = some (.int .u8 cal) := cell_of_block hbox rfl
  have d2 : ((w.alloc (.cells #[.int .u8 15, .int .u8 cal, .int .u8 (ra : Int), .int .u8 (rb : Int), .int .u8 (rc : Int), .int .i64 num] 107))).cell? ⟨w.heap.size, 2, none⟩ = some (.int .u8 (ra : Int)) := cell_of_block hbox rfl
  have d3 : ((w.alloc (.cells #[.int .u8 15, .int .u8 cal, .int .u8 (ra : Int), .int .u8 (rb : Int), .int .u8 (rc : Int), .int .i64 num] 107))).cell? ⟨w.heap.size, 3, none⟩ = some (.int .u8 (rb : Int)) := cell_of_block hbox rfl
  have d4 : ((w.alloc (.cells #[.int .u8 15, .int .u8 cal, .int .u8 (ra : Int), .int .u8 (rb : Int), .int .u8 (rc : Int), .int .i64 num] 107))).cell? ⟨w.heap.size, 4, none⟩ = some (.int .u8 (rc : Int)) := cell_of_block hbox rfl
  have d5 : ((w.alloc (.cells #[.int .u8 15, .int .u8 cal, .int .u8 (ra : Int), .int .u8 (rb : Int), .int .u8 (rc : Int), .int .i64 num] 107))).cell? ⟨w.heap.size, 5, none⟩ = some (.int .i64 num) := cell_of_block hbox rfl
  have rA : ((w.alloc (.cells #[.int .u8 15, .int .u8 cal, .int .u8 (ra : Int), .int .u8 (rb : Int), .int .u8 (rc : Int), .int .i64 num] 107))).cell? ⟨tb, n * 13 + 1 + ra, none⟩ = some (.int .i64 (x.th.reg ra)) := by rw [Nat.add_assoc]; exact h0.cell hx _ _ (encX_reg x ra hra)
  have rB : ((w.alloc (.cells #[.int .u8 15, .int .u8 cal, .int .u8 (ra : Int), .int .u8 (rb : Int), .int .u8 (rc : Int), .int .i64 num] 107))).cell? ⟨tb, n * 13 + 1 + rb, none⟩ = some (.int .i64 (x.th.reg rb)) := by rw [Nat.add_assoc]; exact h0.cell hx _ _ (encX_reg x rb hrb)
  have rC : ((w.alloc (.cells #[.int .u8 15, .int .u8 cal, .int .u8 (ra : Int), .int .u8 (rb : Int), .int .u8 (rc : Int), .int .i64 num] 107))).cell? ⟨tb, n * 13 + 1 + rc, none⟩ = some (.int .i64 (x.th.reg rc)) := by rw [Nat.add_assoc]; exact h0.cell hx _ _ (encX_reg x rc hrc)
  have cAt : ((w.alloc (.cells #[.int .u8 15, .int .u8 cal, .int .u8 (ra : Int), .int .u8 (rb : Int), .int .u8 (rc : Int), .int .i64 num] 107))).cell? ⟨tb, n * 13 + 9, none⟩ = some (.int .i64 x.th.at_) := h0.cell hx 9 _ rfl
  have hws : w.heap.size < (w.alloc (.cells #[.int .u8 15, .int .u8 cal, .int .u8 (ra : Int), .int .u8 (rb : Int), .int .u8 (rc : Int), .int .i64 num] 107)).heap.size := by simp
  have hAi : (ra : Int) < 8 := by omega
  have hBi : (rb : Int) < 8 := by omega
  have hCi : (rc : Int) < 8 := by omega
  have hn : n < xs.length := (List.getElem?_eq_some_iff.1 hx).1
  have fT := h0.free (tb := tb) (by omega : 0 < xs.length)
  have fA := fT (n * 13 + 1 + ra)
  have fB := fT (n * 13 + 1 + rb)
  have hw1 : IntKind.i64.wrap (x.th.at_ + 1) = x.th.at_ + 1 := IntWalk.i64_in _ (by omega)
  have hsz : tb ≠ w.heap.size := by have := (rowLt h.ths (g := tb) rfl).2; omega
  have HS := hidI hsz
  have HX := hidI hx
  have H := hidI h
  have H0 := hidI h0
  have HB := hidI hb0
  have c1 := h0.wcell 1 _ rfl
  obtain ⟨M0, hM0⟩ : ∃ M0, mm.mem.getD a 0 = M0 := ⟨_, rfl⟩
  have cM := h0.mcell ha
  rw [hM0] at cM
  have HM0 := hidI (show mm.at (a : Int) = M0 from hM0)
  clear hM0
  have fM := h0.mfree (by omega : 0 < mm.mem.length) a
  have HE := hidI hev
  have H4 := hidI h4
  have HAT := hidI hat
  have HOWN := hidI (h.fresh _ (Nat.le_refl _))
  clear hev h4
  clear h h0 hx hb0 hbox fT hat hsz
  go_enter Tryz.func157, Tryz.ntmps157
  go_wp2_with fail
  try generalize (w.alloc (.cells #[.int .u8 15, .int .u8 cal, .int .u8 (ra : Int), .int .u8 (rb : Int), .int .u8 (rc : Int), .int .i64 num] 107)) = w0 at H0 HB d1 d2 d3 d4 d5 rA rB rC cAt fA fB hws c1 cM fM ⊢
  refine (ins_load H0.out HX.out hra hrb hrc HAT.out ha).mono ?_
  rintro r w1 ⟨rfl, hm, hc⟩
  have gA := hm.cell (set_at HX.out _) (1 + ra) _ (encX_reg _ ra hra)
  rw [← Nat.add_assoc] at gA
  have gA' : w1.cell? ⟨tb, n * 13 + 1 + ra, none⟩ = some (.int .i64 (mm.found x.th a)) := by simpa [upd] using gA
  have g2 : w1.cell? ⟨w.heap.size, 2, none⟩ = some (.int .u8 (ra : Int)) := by
    rw [World.cell?_of_block (w := w0) (hc.block _ hws (fun e => e.1 HOWN.out))]
    exact d2
  have H2 := hidI hm
  have HC2 := hidI (Chg.then_ (S := fun k => own k ≠ 0 ∧ ¬ (5 ≤ own k ∧ own k % 3 = 2)) (Chg.of_below HB.out) hc (fun k _ e => e))
  clear hm hc gA rA rB rC cAt fA fB c1 cM fM d1 d2 d3 d4 d5
  go_wp2_with fail
  go_still_tail 9, (by kernel_rfl)
  go_wp2_with fail
  refine (event_any H2.out.drew (set_at HX.out _) HE.out (by rw [List.length_set]; exact H4.out) 1 (mm.found x.th a) 0).mono ?_
  rintro e w4 ⟨rfl, ⟨⟨own2, ev', hm, ho⟩, hc⟩⟩
  have H5 := hidI hm
  have HO := hidI (show ∀ k, k < w.heap.size → own2 k = own k from fun k hk => ho k (by
    have h1 := HC2.out.size
    show k < w1.heap.size; omega))
  have HC3 := hidI (Chg.then_ (S := fun k => own k ≠ 0 ∧ ¬ (5 ≤ own k ∧ own k % 3 = 2)) HC2.out ((Chg.refl (fun k => own k = 1 ∨ own k = 4) w1).drew.trans hc) (fun k hk e => by rcases e with e | e <;> rw [e] <;> decide))
  clear hm ho hc gA' g2
  go_wp2_with fail
  go_ret
  exact .inl ⟨by simp [MT.stops], _, own2, _, _, _, _, ev', rfl, H5.out, by simp, set_at HX.out _, by simp [MM.act, MM.put, MM.tell, MT.goes], HO.out, HC3.out⟩

set_option maxRecDepth 100000 in
set_option maxHeartbeats 2000000 in
theorem ins_cas (h : MAt w base b own mm xs mv (.slice (some ⟨tb, 0, none⟩) xs.length cap) ev) (hx : xs[n]? = some x) {cal num : Int} {ra rb rc : Nat} (hra : ra < 8) (hrb : rb < 8) (hrc : rc < 8) (hat : 0 ≤ x.th.at_ ∧ x.th.at_ ≤ 262144) {a : Nat} (ha : a < mm.mem.length) :
    Calls Tryz.prog 150 #[.pointer (some ⟨b, 0, none⟩), .pointer (some ⟨tb, n * 13, none⟩), .agg #[.int .u8 8, .int .u8 cal, .int .u8 (ra : Int), .int .u8 (rb : Int), .int .u8 (rc : Int), .int .i64 num], .int .i64 (a : Int)] w (WorkPost base b own mm xs tb cap n x ⟨8, cal, ra, rb, rc, num⟩ (a : Int) w) := by
  obtain ⟨mb, mc, rfl, hmb⟩ := h.mslice (by omega)
  have hb0 : Below w.heap.size w (w.alloc (.cells #[.int .u8 8, .int .u8 cal, .int .u8 (ra : Int), .int .u8 (rb : Int), .int .u8 (rc : Int), .int .i64 num] 107)) := (Below.refl _ _).alloc (Nat.le_refl _) _
  have h0 := h.below hb0
  have hbox := block_new w (.cells #[.int .u8 8, .int .u8 cal, .int .u8 (ra : Int), .int .u8 (rb : Int), .int .u8 (rc : Int), .int .i64 num] 107)
  have d1 : ((w.alloc (.cells #[.int .u8 8, .int .u8 cal, .int .u8 (ra : Int), .int .u8 (rb : Int), .int .u8 (rc : Int), .int .i64 num] 107))).cell? ⟨w.heap.size, 1, none⟩ = some (.int .u8 cal) := cell_of_block hbox rfl
  have d2 : ((w.alloc (.cells #[.int .u8 8, .int .u8 cal, .int .u8 (ra : Int), .int .u8 (rb : Int), .int .u8 (rc : Int), .int .i64 num] 107))).cell? ⟨w.heap.size, 2, none⟩ = some (.int .u8 (ra : Int)) := cell_of_block hbox rfl
  have d3 : ((w.alloc (.cells #[.int .u8 8, .int .u8 cal, .int .u8 (ra : Int), .int .u8 (rb : Int), .int .u8 (rc : Int), .int .i64 num] 107))).cell? ⟨w.heap.size, 3, none⟩ = some (.int .u8 (rb : Int)) := cell_of_block hbox rfl
  have d4 : ((w.alloc (.cells #[.int .u8 8, .int .u8 cal, .int .u8 (ra : Int), .int .u8 (rb : Int), .int .u8 (rc : Int), .int .i64 num] 107))).cell? ⟨w.heap.size, 4, none⟩ = some (.int .u8 (rc : Int)) := cell_of_block hbox rfl
  have d5 : ((w.alloc (.cells #[.int .u8 8, .int .u8 cal, .int .u8 (ra : Int), .int .u8 (rb : Int), .int .u8 (rc : Int), .int .i64 num] 107))).cell? ⟨w.heap.size, 5, none⟩ = some (.int .i64 num) := cell_of_block hbox rfl
  have rA : ((w.alloc (.cells #[.int .u8 8, .int .u8 cal, .int .u8 (ra : Int), .int .u8 (rb : Int), .int .u8 (rc : Int), .int .i64 num] 107))).cell? ⟨tb, n * 13 + 1 + ra, none⟩ = some (.int .i64 (x.th.reg ra)) := by rw [Nat.add_assoc]; exact h0.cell hx _ _ (encX_reg x ra hra)
  have rB : ((w.alloc (.cells #[.int .u8 8, .int .u8 cal, .int .u8 (ra : Int), .int .u8 (rb : Int), .int .u8 (rc : Int), .int .i64 num] 107))).cell? ⟨tb, n * 13 + 1 + rb, none⟩ = some (.int .i64 (x.th.reg rb)) := by rw [Nat.add_assoc]; exact h0.cell hx _ _ (encX_reg x rb hrb)
  have rC : ((w.alloc (.cells #[.int .u8 8, .int .u8 cal, .int .u8 (ra : Int), .int .u8 (rb : Int), .int .u8 (rc : Int), .int .i64 num] 107))).cell? ⟨tb, n * 13 + 1 + rc, none⟩ = some (.int .i64 (x.th.reg rc)) := by rw [Nat.add_assoc]; exact h0.cell hx _ _ (encX_reg x rc hrc)
  have cAt : ((w.alloc (.cells #[.int .u8 8, .int .u8 cal, .int .u8 (ra : Int), .int .u8 (rb : Int), .int .u8 (rc : Int), .int .i64 num] 107))).cell? ⟨tb, n * 13 + 9, none⟩ = some (.int .i64 x.th.at_) := h0.cell hx 9 _ rfl
  have hws : w.heap.size < (w.alloc (.cells #[.int .u8 8, .int .u8 cal, .int .u8 (ra : Int), .int .u8 (rb : Int), .int .u8 (rc : Int), .int .i64 num] 107)).heap.size := by simp
  have hAi : (ra : Int) < 8 := by omega
  have hBi : (rb : Int) < 8 := by omega
  have hCi : (rc : Int) < 8 := by omega
  have hn : n < xs.length := (List.getElem?_eq_some_iff.1 hx).1
  have fT := h0.free (tb := tb) (by omega : 0 < xs.length)
  have fA := fT (n * 13 + 1 + ra)
  have fB := fT (n * 13 + 1 + rb)
  have hw1 : IntKind.i64.wrap (x.th.at_ + 1) = x.th.at_ + 1 := IntWalk.i64_in _ (by omega)
  have hsz : tb ≠ w.heap.size := by have := (rowLt h.ths (g := tb) rfl).2; omega
  have HS := hidI hsz
  have HX := hidI hx
  have H := hidI h
  have H0 := hidI h0
  have HB := hidI hb0
  have c1 := h0.wcell 1 _ rfl
  obtain ⟨M0, hM0⟩ : ∃ M0, mm.mem.getD a 0 = M0 := ⟨_, rfl⟩
  have cM := h0.mcell ha
  rw [hM0] at cM
  have HM0 := hidI (show mm.at (a : Int) = M0 from hM0)
  clear hM0
  have fM := h0.mfree (by omega : 0 < mm.mem.length) a
  have hms : ¬ w.heap.size = mb := by have := (rowLt h.mem (g := mb) rfl).2; omega
  clear h h0 hx hb0 hbox fT hat hsz
  go_enter Tryz.func150, Tryz.ntmps150
  go_wp2_with fail
  try generalize (w.alloc (.cells #[.int .u8 8, .int .u8 cal, .int .u8 (ra : Int), .int .u8 (rb : Int), .int .u8 (rc : Int), .int .i64 num] 107)) = w0 at H0 HB d1 d2 d3 d4 d5 rA rB rC cAt fA fB hws c1 cM fM ⊢
  by_cases he : M0 = x.th.reg rb
  · have hb1 : (M0 == x.th.reg rb) = true := by simpa using he
    have HE := hidI he
    clear he
    go_quiet (fail)
    go_wp2_with fail
    have d2' : (w0.drewN nq).cell? ⟨w.heap.size, 2, none⟩ = some (.int .u8 (ra : Int)) := d2
    have d3' : (w0.drewN nq).cell? ⟨w.heap.size, 3, none⟩ = some (.int .u8 (rb : Int)) := d3
    have d4' : (w0.drewN nq).cell? ⟨w.heap.size, 4, none⟩ = some (.int .u8 (rc : Int)) := d4
    have rA' : (w0.drewN nq).cell? ⟨tb, n * 13 + 1 + ra, none⟩ = some (.int .i64 (x.th.reg ra)) := rA
    have rB' : (w0.drewN nq).cell? ⟨tb, n * 13 + 1 + rb, none⟩ = some (.int .i64 (x.th.reg rb)) := rB
    have rC' : (w0.drewN nq).cell? ⟨tb, n * 13 + 1 + rc, none⟩ = some (.int .i64 (x.th.reg rc)) := rC
    have c1' : (w0.drewN nq).cell? ⟨b, 1, none⟩ = some (.slice (some ⟨mb, 0, none⟩) mm.mem.length mc) := c1
    have cM' : (w0.drewN nq).cell? ⟨mb, a, none⟩ = some (.int .i64 M0) := cM
    have fA' : (w0.drewN nq).frozen? ⟨tb, n * 13 + 1 + ra, none⟩ = false := fA
    have fB' : (w0.drewN nq).frozen? ⟨tb, n * 13 + 1 + rb, none⟩ = false := fB
    have fM' : (w0.drewN nq).frozen? ⟨mb, a, none⟩ = false := fM
    have H1 := hidI (H0.out.drewN nq)
    have HB1 := hidI (below_drewN HB.out nq)
    clear d1 d5 cAt H0 HB hws d2 d3 d4 rA rB rC c1 cM fA fB fM
    generalize w0.drewN nq = w1 at H1 HB1 d2' d3' d4' rA' rB' rC' c1' cM' fA' fB' fM' ⊢
    clear fA' fB'
    go_region
    have h2 := (H1.out.word ha (x.th.reg rc)).drew
    have g3 : (w1.setCell ⟨mb, a, none⟩ (.int .i64 (x.th.reg rc))).drew.cell? ⟨w.heap.size, 3, none⟩ = some (.int .u8 (rb : Int)) := cell_otherD d3' hms
    have H2 := hidI h2
    have HC2 := hidI (Chg.then_ (S := fun k => own k ≠ 0 ∧ ¬ (5 ≤ own k ∧ own k % 3 = 2)) (Chg.of_below HB1.out) (((Chg.refl (fun k => k = mb) w1).setCell (p := ⟨mb, a, none⟩) (.inl rfl) (.int .i64 (x.th.reg rc))).drew) (fun k _ e => by rw [e, hmb]; decide))
    clear h2 rA' rB' rC' c1' cM' fM' d2' d3' d4'
    generalize (w1.setCell ⟨mb, a, none⟩ (.int .i64 (x.th.reg rc))).drew = w2 at H2 HC2 g3 ⊢
    have q2 := H2.out.cell HX.out (1 + rb) _ (encX_reg x rb hrb)
    rw [← Nat.add_assoc] at q2
    have q3 := H2.out.free (tb := tb) (by omega : 0 < xs.length) (n * 13 + 1 + rb)
    go_wp2_with fail
    go_region
    have h3 := (H2.out.poke HX.out { x with th := { x.th with reg := upd x.th.reg rb M0 } } (1 + rb) (.int .i64 M0) (by omega) (encX_setReg x M0 rb hrb) rfl rfl rfl rfl rfl rfl).drew
    rw [← Nat.add_assoc] at h3
    have e9 := h3.cell (set_at HX.out _) 9 _ rfl
    have H3 := hidI h3
    have HC3 := hidI (Chg.then_ (S := fun k => own k ≠ 0 ∧ ¬ (5 ≤ own k ∧ own k % 3 = 2)) HC2.out (((Chg.refl (fun k => k = tb) w2).setCell (p := ⟨tb, n * 13 + 1 + rb, none⟩) (.inl rfl) (.int .i64 M0)).drew) (fun k _ e => by rw [e, H.out.thsT tb rfl]; decide))
    clear h3 q2 q3
    simp only at e9
    go_wp2_with fail
    go_ret
    refine work_one HX.out rfl H3.out ?_ HC3.out (by simp [MT.stops])
    simp [MM.act, MM.put, MT.goes, MT.r, HM0.out, HE.out]
  · have hb1 : (M0 == x.th.reg rb) = false := by simpa using he
    have HE := hidI he
    clear he
    go_quiet (fail)
    go_wp2_with fail
    have d2' : (w0.drewN nq).cell? ⟨w.heap.size, 2, none⟩ = some (.int .u8 (ra : Int)) := d2
    have d3' : (w0.drewN nq).cell? ⟨w.heap.size, 3, none⟩ = some (.int .u8 (rb : Int)) := d3
    have d4' : (w0.drewN nq).cell? ⟨w.heap.size, 4, none⟩ = some (.int .u8 (rc : Int)) := d4
    have rA' : (w0.drewN nq).cell? ⟨tb, n * 13 + 1 + ra, none⟩ = some (.int .i64 (x.th.reg ra)) := rA
    have rB' : (w0.drewN nq).cell? ⟨tb, n * 13 + 1 + rb, none⟩ = some (.int .i64 (x.th.reg rb)) := rB
    have rC' : (w0.drewN nq).cell? ⟨tb, n * 13 + 1 + rc, none⟩ = some (.int .i64 (x.th.reg rc)) := rC
    have c1' : (w0.drewN nq).cell? ⟨b, 1, none⟩ = some (.slice (some ⟨mb, 0, none⟩) mm.mem.length mc) := c1
    have cM' : (w0.drewN nq).cell? ⟨mb, a, none⟩ = some (.int .i64 M0) := cM
    have fA' : (w0.drewN nq).frozen? ⟨tb, n * 13 + 1 + ra, none⟩ = false := fA
    have fB' : (w0.drewN nq).frozen? ⟨tb, n * 13 + 1 + rb, none⟩ = false := fB
    have fM' : (w0.drewN nq).frozen? ⟨mb, a, none⟩ = false := fM
    have H1 := hidI (H0.out.drewN nq)
    have HB1 := hidI (below_drewN HB.out nq)
    clear d1 d5 cAt H0 HB hws d2 d3 d4 rA rB rC c1 cM fA fB fM
    generalize w0.drewN nq = w1 at H1 HB1 d2' d3' d4' rA' rB' rC' c1' cM' fA' fB' fM' ⊢
    go_region
    have h2 := (H1.out.poke HX.out { x with th := { x.th with reg := upd x.th.reg rb (M0) } } (1 + rb) (.int .i64 (M0)) (by omega) (encX_setReg x (M0) rb hrb) rfl rfl rfl rfl rfl rfl).drew
    rw [← Nat.add_assoc] at h2
    have e9 := h2.cell (set_at HX.out _) 9 _ rfl
    have H2 := hidI h2
    have HC2 := hidI (Chg.then_ (S := fun k => own k ≠ 0 ∧ ¬ (5 ≤ own k ∧ own k % 3 = 2)) (Chg.of_below HB1.out) (((Chg.refl (fun k => k = tb) w1).setCell (p := ⟨tb, n * 13 + 1 + rb, none⟩) (.inl rfl) (.int .i64 (M0))).drew) (fun k _ e => by rw [e, H.out.thsT tb rfl]; decide))
    clear h2
    simp only at e9
    go_wp2_with fail
    go_ret
    exact work_one HX.out rfl H2.out (by simp [MM.act, MM.put, MT.goes, MT.r, HM0.out, HE.out]) HC2.out (by simp [MT.stops])

set_option maxRecDepth 100000 in
set_option maxHeartbeats 2000000 in
theorem ins_store (h : MAt w base b own mm xs mv (.slice (some ⟨tb, 0, none⟩) xs.length cap) ev) (hx : xs[n]? = some x) {cal num : Int} {ra rb rc : Nat} (hra : ra < 8) (hrb : rb < 8) (hrc : rc < 8) (hat : 0 ≤ x.th.at_ ∧ x.th.at_ ≤ 262144) (a : Int) (hfull : x.th.wait.length < 64) :
    Calls Tryz.prog 147 #[.pointer (some ⟨b, 0, none⟩), .pointer (some ⟨tb, n * 13, none⟩), .agg #[.int .u8 5, .int .u8 cal, .int .u8 (ra : Int), .int .u8 (rb : Int), .int .u8 (rc : Int), .int .i64 num], .int .i64 a] w (WorkPost base b own mm xs tb cap n x ⟨5, cal, ra, rb, rc, num⟩ a w) := by
  have hb0 : Below w.heap.size w (w.alloc (.cells #[.int .u8 5, .int .u8 cal, .int .u8 (ra : Int), .int .u8 (rb : Int), .int .u8 (rc : Int), .int .i64 num] 107)) := (Below.refl _ _).alloc (Nat.le_refl _) _
  have h0 := h.below hb0
  have hbox := block_new w (.cells #[.int .u8 5, .int .u8 cal, .int .u8 (ra : Int), .int .u8 (rb : Int), .int .u8 (rc : Int), .int .i64 num] 107)
  have d1 : ((w.alloc (.cells #[.int .u8 5, .int .u8 cal, .int .u8 (ra : Int), .int .u8 (rb : Int), .int .u8 (rc : Int), .int .i64 num] 107))).cell? ⟨w.heap.size, 1, none⟩ = some (.int .u8 cal) := cell_of_block hbox rfl
  have d2 : ((w.alloc (.cells #[.int .u8 5, .int .u8 cal, .int .u8 (ra : Int), .int .u8 (rb : Int), .int .u8 (rc : Int), .int .i64 num] 107))).cell? ⟨w.heap.size, 2, none⟩ = some (.int .u8 (ra : Int)) := cell_of_block hbox rfl
  have d3 : ((w.alloc (.cells #[.int .u8 5, .int .u8 cal, .int .u8 (ra : Int), .int .u8 (rb : Int), .int .u8 (rc : Int), .int .i64 num] 107))).cell? ⟨w.heap.size, 3, none⟩ = some (.int .u8 (rb : Int)) := cell_of_block hbox rfl
  have d4 : ((w.alloc (.cells #[.int .u8 5, .int .u8 cal, .int .u8 (ra : Int), .int .u8 (rb : Int), .int .u8 (rc : Int), .int .i64 num] 107))).cell? ⟨w.heap.size, 4, none⟩ = some (.int .u8 (rc : Int)) := cell_of_block hbox rfl
  have d5 : ((w.alloc (.cells #[.int .u8 5, .int .u8 cal, .int .u8 (ra : Int), .int .u8 (rb : Int), .int .u8 (rc : Int), .int .i64 num] 107))).cell? ⟨w.heap.size, 5, none⟩ = some (.int .i64 num) := cell_of_block hbox rfl
  have rA : ((w.alloc (.cells #[.int .u8 5, .int .u8 cal, .int .u8 (ra : Int), .int .u8 (rb : Int), .int .u8 (rc : Int), .int .i64 num] 107))).cell? ⟨tb, n * 13 + 1 + ra, none⟩ = some (.int .i64 (x.th.reg ra)) := by rw [Nat.add_assoc]; exact h0.cell hx _ _ (encX_reg x ra hra)
  have rB : ((w.alloc (.cells #[.int .u8 5, .int .u8 cal, .int .u8 (ra : Int), .int .u8 (rb : Int), .int .u8 (rc : Int), .int .i64 num] 107))).cell? ⟨tb, n * 13 + 1 + rb, none⟩ = some (.int .i64 (x.th.reg rb)) := by rw [Nat.add_assoc]; exact h0.cell hx _ _ (encX_reg x rb hrb)
  have rC : ((w.alloc (.cells #[.int .u8 5, .int .u8 cal, .int .u8 (ra : Int), .int .u8 (rb : Int), .int .u8 (rc : Int), .int .i64 num] 107))).cell? ⟨tb, n * 13 + 1 + rc, none⟩ = some (.int .i64 (x.th.reg rc)) := by rw [Nat.add_assoc]; exact h0.cell hx _ _ (encX_reg x rc hrc)
  have cAt : ((w.alloc (.cells #[.int .u8 5, .int .u8 cal, .int .u8 (ra : Int), .int .u8 (rb : Int), .int .u8 (rc : Int), .int .i64 num] 107))).cell? ⟨tb, n * 13 + 9, none⟩ = some (.int .i64 x.th.at_) := h0.cell hx 9 _ rfl
  have hws : w.heap.size < (w.alloc (.cells #[.int .u8 5, .int .u8 cal, .int .u8 (ra : Int), .int .u8 (rb : Int), .int .u8 (rc : Int), .int .i64 num] 107)).heap.size := by simp
  have hAi : (ra : Int) < 8 := by omega
  have hBi : (rb : Int) < 8 := by omega
  have hCi : (rc : Int) < 8 := by omega
  have hn : n < xs.length := (List.getElem?_eq_some_iff.1 hx).1
  have fT := h0.free (tb := tb) (by omega : 0 < xs.length)
  have fA := fT (n * 13 + 1 + ra)
  have fB := fT (n * 13 + 1 + rb)
  have hw1 : IntKind.i64.wrap (x.th.at_ + 1) = x.th.at_ + 1 := IntWalk.i64_in _ (by omega)
  have hsz : tb ≠ w.heap.size := by have := (rowLt h.ths (g := tb) rfl).2; omega
  have HS := hidI hsz
  have HX := hidI hx
  have H := hidI h
  have H0 := hidI h0
  have HB := hidI hb0
  obtain ⟨rc0, rf0, hring⟩ := (h0.th n x hx).ring
  have HRING := hidI hring
  have cW : (w.alloc (.cells #[.int .u8 5, .int .u8 cal, .int .u8 (ra : Int), .int .u8 (rb : Int), .int .u8 (rc : Int), .int .i64 num] 107)).cell? ⟨tb, n * 13 + 10, none⟩ = some (.pointer (some ⟨x.bb, 0, none⟩)) := h0.cell hx 10 _ rfl
  clear h h0 hx hb0 hbox fT hat hsz
  go_enter Tryz.func147, Tryz.ntmps147
  go_wp2_with fail
  try generalize (w.alloc (.cells #[.int .u8 5, .int .u8 cal, .int .u8 (ra : Int), .int .u8 (rb : Int), .int .u8 (rc : Int), .int .i64 num] 107)) = w0 at H0 HB d1 d2 d3 d4 d5 rA rB rC cAt fA fB hws HRING cW ⊢
  go_still_tail 12, (by kernel_rfl)
  go_wp2_with fail
  refine (put_some (w := w0.drew) (HRING.out.drewN 1) hfull a (x.th.reg rb)).mono ?_
  rintro e w1 ⟨rfl, ⟨c', hr⟩, hc, hs⟩
  have h2 := H0.out.drew.ringedS HX.out hc hr
  have e9 := h2.cell (set_at HX.out _) 9 _ rfl
  have H2 := hidI h2
  have HC2 := hidI (Chg.then_ (S := fun k => own k ≠ 0 ∧ ¬ (5 ≤ own k ∧ own k % 3 = 2)) (Chg.of_below HB.out) ((Chg.refl (fun k => k = x.bb) w0).drew.trans hc) (fun k _ e => by rw [e, (H.out.th n x HX.out).ringT.2]; omega))
  clear h2 hr hc hs rA rB rC cAt fA fB HRING cW
  simp only at e9
  go_wp2_with fail
  go_ret
  exact work_one HX.out rfl H2.out (by simp [MM.act, MM.put, MT.next, MT.r]) HC2.out (by simp [MT.stops])

set_option maxRecDepth 100000 in
set_option maxHeartbeats 2000000 in
theorem ins_calc (h : MAt w base b own mm xs mv (.slice (some ⟨tb, 0, none⟩) xs.length cap) ev) (hx : xs[n]? = some x) {cal num : Int} {ra rb rc : Nat} (hra : ra < 8) (hrb : rb < 8) (hrc : rc < 8) (hat : 0 ≤ x.th.at_ ∧ x.th.at_ ≤ 262144) (a : Int) :
    Calls Tryz.prog 145 #[.pointer (some ⟨b, 0, none⟩), .pointer (some ⟨tb, n * 13, none⟩), .agg #[.int .u8 3, .int .u8 cal, .int .u8 (ra : Int), .int .u8 (rb : Int), .int .u8 (rc : Int), .int .i64 num], .int .i64 a] w (WorkPost base b own mm xs tb cap n x ⟨3, cal, ra, rb, rc, num⟩ a w) := by
  have hb0 : Below w.heap.size w (w.alloc (.cells #[.int .u8 3, .int .u8 cal, .int .u8 (ra : Int), .int .u8 (rb : Int), .int .u8 (rc : Int), .int .i64 num] 107)) := (Below.refl _ _).alloc (Nat.le_refl _) _
  have h0 := h.below hb0
  have hbox := block_new w (.cells #[.int .u8 3, .int .u8 cal, .int .u8 (ra : Int), .int .u8 (rb : Int), .int .u8 (rc : Int), .int .i64 num] 107)
  have d1 : ((w.alloc (.cells #[.int .u8 3, .int .u8 cal, .int .u8 (ra : Int), .int .u8 (rb : Int), .int .u8 (rc : Int), .int .i64 num] 107))).cell? ⟨w.heap.size, 1, none⟩ = some (.int .u8 cal) := cell_of_block hbox rfl
  have d2 : ((w.alloc (.cells #[.int .u8 3, .int .u8 cal, .int .u8 (ra : Int), .int .u8 (rb : Int), .int .u8 (rc : Int), .int .i64 num] 107))).cell? ⟨w.heap.size, 2, none⟩ = some (.int .u8 (ra : Int)) := cell_of_block hbox rfl
  have d3 : ((w.alloc (.cells #[.int .u8 3, .int .u8 cal, .int .u8 (ra : Int), .int .u8 (rb : Int), .int .u8 (rc : Int), .int .i64 num] 107))).cell? ⟨w.heap.size, 3, none⟩ = some (.int .u8 (rb : Int)) := cell_of_block hbox rfl
  have d4 : ((w.alloc (.cells #[.int .u8 3, .int .u8 cal, .int .u8 (ra : Int), .int .u8 (rb : Int), .int .u8 (rc : Int), .int .i64 num] 107))).cell? ⟨w.heap.size, 4, none⟩ = some (.int .u8 (rc : Int)) := cell_of_block hbox rfl
  have d5 : ((w.alloc (.cells #[.int .u8 3, .int .u8 cal, .int .u8 (ra : Int), .int .u8 (rb : Int), .int .u8 (rc : Int), .int .i64 num] 107))).cell? ⟨w.heap.size, 5, none⟩ = some (.int .i64 num) := cell_of_block hbox rfl
  have rA : ((w.alloc (.cells #[.int .u8 3, .int .u8 cal, .int .u8 (ra : Int), .int .u8 (rb : Int), .int .u8 (rc : Int), .int .i64 num] 107))).cell? ⟨tb, n * 13 + 1 + ra, none⟩ = some (.int .i64 (x.th.reg ra)) := by rw [Nat.add_assoc]; exact h0.cell hx _ _ (encX_reg x ra hra)
  have rB : ((w.alloc (.cells #[.int .u8 3, .int .u8 cal, .int .u8 (ra : Int), .int .u8 (rb : Int), .int .u8 (rc : Int), .int .i64 num] 107))).cell? ⟨tb, n * 13 + 1 + rb, none⟩ = some (.int .i64 (x.th.reg rb)) := by rw [Nat.add_assoc]; exact h0.cell hx _ _ (encX_reg x rb hrb)
  have rC : ((w.alloc (.cells #[.int .u8 3, .int .u8 cal, .int .u8 (ra : Int), .int .u8 (rb : Int), .int .u8 (rc : Int), .int .i64 num] 107))).cell? ⟨tb, n * 13 + 1 + rc, none⟩ = some (.int .i64 (x.th.reg rc)) := by rw [Nat.add_assoc]; exact h0.cell hx _ _ (encX_reg x rc hrc)
  have cAt : ((w.alloc (.cells #[.int .u8 3, .int .u8 cal, .int .u8 (ra : Int), .int .u8 (rb : Int), .int .u8 (rc : Int), .int .i64 num] 107))).cell? ⟨tb, n * 13 + 9, none⟩ = some (.int .i64 x.th.at_) := h0.cell hx 9 _ rfl
  have hws : w.heap.size < (w.alloc (.cells #[.int .u8 3, .int .u8 cal, .int .u8 (ra : Int), .int .u8 (rb : Int), .int .u8 (rc : Int), .int .i64 num] 107)).heap.size := by simp
  have hAi : (ra : Int) < 8 := by omega
  have hBi : (rb : Int) < 8 := by omega
  have hCi : (rc : Int) < 8 := by omega
  have hn : n < xs.length := (List.getElem?_eq_some_iff.1 hx).1
  have fT := h0.free (tb := tb) (by omega : 0 < xs.length)
  have fA := fT (n * 13 + 1 + ra)
  have fB := fT (n * 13 + 1 + rb)
  have hw1 : IntKind.i64.wrap (x.th.at_ + 1) = x.th.at_ + 1 := IntWalk.i64_in _ (by omega)
  have hsz : tb ≠ w.heap.size := by have := (rowLt h.ths (g := tb) rfl).2; omega
  have HS := hidI hsz
  have HX := hidI hx
  have H := hidI h
  have H0 := hidI h0
  have HB := hidI hb0
  clear h h0 hx hb0 hbox fT hat hsz
  go_enter Tryz.func145, Tryz.ntmps145
  go_wp2_with fail
  try generalize (w.alloc (.cells #[.int .u8 3, .int .u8 cal, .int .u8 (ra : Int), .int .u8 (rb : Int), .int .u8 (rc : Int), .int .i64 num] 107)) = w0 at H0 HB d1 d2 d3 d4 d5 rA rB rC cAt fA fB hws ⊢
  have g1 := fun t => ext_cell d1 t
  have g2 := fun t => ext_cell d2 t
  have g3 := fun t => ext_cell d3 t
  have gA := fun t => ext_cell rA t
  have gB := fun t => ext_cell rB t
  clear d1 d3 d4 d5 rA rB rC cAt fA fB
  refine wp_region_grow (by kernel_rfl) (by kernel_rfl) ?_
  repeat (go_big_quiet_step ((first | (go_at_call 168; exact grow_of ((do_any _ cal (x.th.reg ra) (x.th.reg rb)).mono fun r w' h => ⟨h.1, by rw [h.2]; exact Below.refl _ _⟩)))))
  refine wpQuiet_nil ?_
  intro w1 hb1
  have h1 := H0.out.below hb1
  have d2' : w1.cell? ⟨w.heap.size, 2, none⟩ = some (.int .u8 (ra : Int)) := (World.cell?_of_block (w := w0) (hb1.block _ hws)).trans d2
  have rA' : w1.cell? ⟨tb, n * 13 + 1 + ra, none⟩ = some (.int .i64 (x.th.reg ra)) := by rw [Nat.add_assoc]; exact h1.cell HX.out _ _ (encX_reg x ra hra)
  have fA' := h1.free (tb := tb) (by omega : 0 < xs.length) (n * 13 + 1 + ra)
  have H1 := hidI h1
  have HB1 := hidI (HB.out.trans (hb1.mono HB.out.size))
  clear g1 g2 g3 gA gB hb1 h1 d2 hws H0 HB
  cases hf : calcS cal (x.th.reg ra) (x.th.reg rb) with
  | some v =>
    rw [doV_some hf, doE_some hf]
    have HF := hidI hf
    clear hf
    go_wp2_with fail
    go_region
    have h2 := (H1.out.poke HX.out { x with th := { x.th with reg := upd x.th.reg ra (v) } } (1 + ra) (.int .i64 (v)) (by omega) (encX_setReg x (v) ra hra) rfl rfl rfl rfl rfl rfl).drew
    rw [← Nat.add_assoc] at h2
    have e9 := h2.cell (set_at HX.out _) 9 _ rfl
    have H2 := hidI h2
    have HC2 := hidI (Chg.then_ (S := fun k => own k ≠ 0 ∧ ¬ (5 ≤ own k ∧ own k % 3 = 2)) (Chg.of_below HB1.out) (((Chg.refl (fun k => k = tb) w1).setCell (p := ⟨tb, n * 13 + 1 + ra, none⟩) (.inl rfl) (.int .i64 (v))).drew) (fun k _ e => by rw [e, H.out.thsT tb rfl]; decide))
    clear h2
    simp only at e9
    go_wp2_with fail
    go_ret
    exact work_one HX.out rfl H2.out (by simp [MM.act, MM.put, MT.goes, MT.r, HF.out]) HC2.out (by simp [MT.stops, MT.r, HF.out])
  | none =>
    rw [doV_none hf, doE_none hf]
    have HF := hidI hf
    generalize hg : (if cal = 4 ∨ cal = 5 then (4 : Int) else 1) = E
    have hE : (E == 0) = false := by rw [← hg]; split <;> rfl
    clear hf hg
    go_wp2_with fail
    exact ⟨rfl, .inr ⟨2, by simp [MT.stops, MT.r, HF.out], rfl, HB1.out, by simp [MM.act, MT.r, HF.out], by omega, by omega⟩⟩

set_option maxRecDepth 100000 in
set_option maxHeartbeats 2000000 in
theorem ins_tell (h : MAt w base b own mm xs mv (.slice (some ⟨tb, 0, none⟩) xs.length cap) ev) (hx : xs[n]? = some x) {cal num : Int} {ra rb rc : Nat} (hra : ra < 8) (hrb : rb < 8) (hrc : rc < 8) (hat : 0 ≤ x.th.at_ ∧ x.th.at_ ≤ 262144) (a : Int) (hol : x.th.out.length < 1000000000) (hev : mm.evs.length < 1000000000) (h4 : xs.length ≤ 4) :
    Calls Tryz.prog 153 #[.pointer (some ⟨b, 0, none⟩), .pointer (some ⟨tb, n * 13, none⟩), .agg #[.int .u8 11, .int .u8 cal, .int .u8 (ra : Int), .int .u8 (rb : Int), .int .u8 (rc : Int), .int .i64 num], .int .i64 a] w (WorkPost base b own mm xs tb cap n x ⟨11, cal, ra, rb, rc, num⟩ a w) := by
  have hb0 : Below w.heap.size w (w.alloc (.cells #[.int .u8 11, .int .u8 cal, .int .u8 (ra : Int), .int .u8 (rb : Int), .int .u8 (rc : Int), .int .i64 num] 107)) := (Below.refl _ _).alloc (Nat.le_refl _) _
  have h0 := h.below hb0
  have hbox := block_new w (.cells #[.int .u8 11, .int .u8 cal, .int .u8 (ra : Int), .int .u8 (rb : Int), .int .u8 (rc : Int), .int .i64 num] 107)
  have d1 : ((w.alloc (.cells #[.int .u8 11, .int .u8 cal, .int .u8 (ra : Int), .int .u8 (rb : Int), .int .u8 (rc : Int), .int .i64 num] 107))).cell? ⟨w.heap.size, 1, none⟩ = some (.int .u8 cal) := cell_of_block hbox rfl
  have d2 : ((w.alloc (.cells #[.int .u8 11, .int .u8 cal, .int .u8 (ra : Int), .int .u8 (rb : Int), .int .u8 (rc : Int), .int .i64 num] 107))).cell? ⟨w.heap.size, 2, none⟩ = some (.int .u8 (ra : Int)) := cell_of_block hbox rfl
  have d3 : ((w.alloc (.cells #[.int .u8 11, .int .u8 cal, .int .u8 (ra : Int), .int .u8 (rb : Int), .int .u8 (rc : Int), .int .i64 num] 107))).cell? ⟨w.heap.size, 3, none⟩ = some (.int .u8 (rb : Int)) := cell_of_block hbox rfl
  have d4 : ((w.alloc (.cells #[.int .u8 11, .int .u8 cal, .int .u8 (ra : Int), .int .u8 (rb : Int), .int .u8 (rc : Int), .int .i64 num] 107))).cell? ⟨w.heap.size, 4, none⟩ = some (.int .u8 (rc : Int)) := cell_of_block hbox rfl
  have d5 : ((w.alloc (.cells #[.int .u8 11, .int .u8 cal, .int .u8 (ra : Int), .int .u8 (rb : Int), .int .u8 (rc : Int), .int .i64 num] 107))).cell? ⟨w.heap.size, 5, none⟩ = some (.int .i64 num) := cell_of_block hbox rfl
  have rA : ((w.alloc (.cells #[.int .u8 11, .int .u8 cal, .int .u8 (ra : Int), .int .u8 (rb : Int), .int .u8 (rc : Int), .int .i64 num] 107))).cell? ⟨tb, n * 13 + 1 + ra, none⟩ = some (.int .i64 (x.th.reg ra)) := by rw [Nat.add_assoc]; exact h0.cell hx _ _ (encX_reg x ra hra)
  have rB : ((w.alloc (.cells #[.int .u8 11, .int .u8 cal, .int .u8 (ra : Int), .int .u8 (rb : Int), .int .u8 (rc : Int), .int .i64 num] 107))).cell? ⟨tb, n * 13 + 1 + rb, none⟩ = some (.int .i64 (x.th.reg rb)) := by rw [Nat.add_assoc]; exact h0.cell hx _ _ (encX_reg x rb hrb)
  have rC : ((w.alloc (.cells #[.int .u8 11, .int .u8 cal, .int .u8 (ra : Int), .int .u8 (rb : Int), .int .u8 (rc : Int), .int .i64 num] 107))).cell? ⟨tb, n * 13 + 1 + rc, none⟩ = some (.int .i64 (x.th.reg rc)) := by rw [Nat.add_assoc]; exact h0.cell hx _ _ (encX_reg x rc hrc)
  have cAt : ((w.alloc (.cells #[.int .u8 11, .int .u8 cal, .int .u8 (ra : Int), .int .u8 (rb : Int), .int .u8 (rc : Int), .int .i64 num] 107))).cell? ⟨tb, n * 13 + 9, none⟩ = some (.int .i64 x.th.at_) := h0.cell hx 9 _ rfl
  have hws : w.heap.size < (w.alloc (.cells #[.int .u8 11, .int .u8 cal, .int .u8 (ra : Int), .int .u8 (rb : Int), .int .u8 (rc : Int), .int .i64 num] 107)).heap.size := by simp
  have hAi : (ra : Int) < 8 := by omega
  have hBi : (rb : Int) < 8 := by omega
  have hCi : (rc : Int) < 8 := by omega
  have hn : n < xs.length := (List.getElem?_eq_some_iff.1 hx).1
  have fT := h0.free (tb := tb) (by omega : 0 < xs.length)
  have fA := fT (n * 13 + 1 + ra)
  have fB := fT (n * 13 + 1 + rb)
  have hw1 : IntKind.i64.wrap (x.th.at_ + 1) = x.th.at_ + 1 := IntWalk.i64_in _ (by omega)
  have hsz : tb ≠ w.heap.size := by have := (rowLt h.ths (g := tb) rfl).2; omega
  have HS := hidI hsz
  have HX := hidI hx
  have H := hidI h
  have H0 := hidI h0
  have HB := hidI hb0
  obtain ⟨i0, hi, hz0, hz1, hz2⟩ := info_parts i64Info
  have HOUT := hidI (h0.th n x hx).out
  have HOL := hidI hol
  have HE := hidI hev
  have H4 := hidI h4
  have c11 : (w.alloc (.cells #[.int .u8 11, .int .u8 cal, .int .u8 (ra : Int), .int .u8 (rb : Int), .int .u8 (rc : Int), .int .i64 num] 107)).cell? ⟨tb, n * 13 + 11, none⟩ = some x.ov := h0.cell hx 11 _ rfl
  have f11 := fT (n * 13 + 11)
  have htb : tb < (w.alloc (.cells #[.int .u8 11, .int .u8 cal, .int .u8 (ra : Int), .int .u8 (rb : Int), .int .u8 (rc : Int), .int .i64 num] 107)).heap.size := (rowLt h0.ths (g := tb) rfl).2
  have hox : ∀ g, x.ov.ownBlock = some g → g < w.heap.size := fun g hg => (rowLt (h.th n x hx).out hg).2
  have HOX := hidI hox
  clear hol hev h4 hox
  clear h h0 hx hb0 hbox fT hat hsz
  go_enter Tryz.func153, Tryz.ntmps153
  go_wp2_with fail
  try generalize (w.alloc (.cells #[.int .u8 11, .int .u8 cal, .int .u8 (ra : Int), .int .u8 (rb : Int), .int .u8 (rc : Int), .int .i64 num] 107)) = w0 at H0 HB d1 d2 d3 d4 d5 rA rB rC cAt fA fB hws HOUT c11 f11 htb ⊢
  clear rB rC d1 d3 d4 d5 cAt fA fB
  go_region_law (first | (refine step_append_d (by rfl) (.tmp 13) (.tmp 21) 51 (by rfl) base 2 i0 _ 1 8 Tryz.underlying51 hi hz0 hz1 hz2 rfl (by decide) x.ov x.th.out.length (x.th.out.flatMap encI) (by simp [Act.eval]) (by exact ownsRow_chg HOUT.out (((Chg.refl (fun _ => False) w0).alloc _).drew) (fun _ _ => id)) ⟨w0.heap.size, 0, none⟩ 1 1 (by decide) (encI (x.th.reg ra)) (by simp [Act.eval]) rfl (by exact news_at (block_new w0 _)) (one_I _) (by have := HOL.out; unfold maxLen; omega) (by have := HOL.out; omega) (by have := H0.out.base_le; show base ≤ (w0.alloc _).heap.size; rw [World.size_alloc]; omega) ?_; intro ao cp w2 h1 h2 h3; have hg0 : Chg (fun k => x.ov.ownBlock = some k) w0 w2 := Chg.grown (S := fun k => x.ov.ownBlock = some k) (((Chg.refl _ w0).alloc _).drew) h3 (fun k hk => .inl hk); have hbt : w2.heap[tb]? = w0.heap[tb]? := hg0.block tb htb (fun e => by have h7 := (H0.out.th n x HX.out).outT tb e; rw [H0.out.thsT tb rfl] at h7; omega); have s1 : w2.cell? ⟨tb, n * 13 + 11, none⟩ = some x.ov := (World.cell?_of_block hbt).trans c11; have s2 : w2.frozen? ⟨tb, n * 13 + 11, none⟩ = false := (by have f12 := f11; unfold World.frozen? at f12 ⊢; rw [hbt]; exact f12); have HG0 := hidI hg0; have HR := hidI h1; have HFR := hidI h2; clear h1 h2 h3 hg0 hbt))
  all_goals go_wp2_with fail
  all_goals (
    have hne : ∀ g, (Value.slice ao (x.th.out.length + 1) cp).ownBlock = some g → x.ov.ownBlock = some g ∨ w0.heap.size ≤ g := fun g hg => by
      rcases HFR.out g hg with e | e
      · exact .inl e
      · exact .inr (by have e' : (w0.alloc _).heap.size ≤ g := e; rw [World.size_alloc] at e'; omega)
    have h2 := H0.out.told HX.out (x.th.out ++ [x.th.reg ra]) (.slice ao (x.th.out.length + 1) cp) HG0.out (by rw [List.length_append, flat_snoc]; exact HR.out) hne
    have g2 : (w2.setCell ⟨tb, n * 13 + 11, none⟩ (.slice ao (x.th.out.length + 1) cp)).cell? ⟨w.heap.size, 2, none⟩ = some (.int .u8 (ra : Int)) := by
      rw [World.cell?_of_block (w := w0) ((Below.heap_setCell _ _ _ _ (fun e => HS.out e.symm)).trans (HG0.out.block _ hws (fun e => absurd (HOX.out w.heap.size e) (Nat.lt_irrefl _))))]
      exact d2
    have gA := h2.cell (set_at HX.out _) (1 + ra) _ (encX_reg _ ra hra)
    rw [← Nat.add_assoc] at gA
    have H2 := hidI h2
    have HC2 := hidI (Chg.then_ (S := fun k => own k ≠ 0 ∧ ¬ (5 ≤ own k ∧ own k % 3 = 2)) (Chg.of_below HB.out) ((Chg.then_ (S := fun k => own k ≠ 0 ∧ ¬ (5 ≤ own k ∧ own k % 3 = 2)) (Chg.refl _ w0) HG0.out (fun k _ e => by rw [(H0.out.th n x HX.out).outT k e]; omega)).setCell (p := ⟨tb, n * 13 + 11, none⟩) (.inl (by show own tb ≠ 0 ∧ ¬ (5 ≤ own tb ∧ own tb % 3 = 2); rw [H.out.thsT tb rfl]; decide)) (.slice ao (x.th.out.length + 1) cp)) (fun k _ e => e))
    have HRT := hidI (fun k (hk : k < w0.heap.size) => (retag_old (own := own) (v := .slice ao (x.th.out.length + 1) cp) (p := 7 + 3 * n) hk))
    clear h2 hne
    simp only at gA
    generalize w2.setCell ⟨tb, n * 13 + 11, none⟩ (.slice ao (x.th.out.length + 1) cp) = w3 at H2 HC2 g2 gA ⊢
    generalize retag own (.slice ao (x.th.out.length + 1) cp) (7 + 3 * n) w0.heap.size = own1 at H2 HRT
    go_still_tail 9, (by kernel_rfl)
    go_wp2_with fail
    refine (event_any H2.out.drew (set_at HX.out _) HE.out (by rw [List.length_set]; exact H4.out) 9 (x.th.reg ra) 0).mono ?_
    rintro e w4 ⟨rfl, ⟨⟨own2, ev', hm, ho⟩, hc⟩⟩
    have e9 := hm.cell (set_at HX.out _) 9 _ rfl
    have H5 := hidI hm
    have HO := hidI (show ∀ k, k < w.heap.size → own2 k = own k from fun k hk => by
      have h1 := HC2.out.size
      have h2 := HB.out.size
      rw [ho k (by show k < w3.heap.size; omega)]
      exact HRT.out k (by omega))
    have HC3 := hidI (Chg.then_ (S := fun k => own k ≠ 0 ∧ ¬ (5 ≤ own k ∧ own k % 3 = 2)) HC2.out ((Chg.refl (fun k => own1 k = 1 ∨ own1 k = 4) w3).drew.trans hc) (fun k hk e => by
      have h2 := HB.out.size
      have h1 := HRT.out k (by omega)
      show own k ≠ 0 ∧ ¬ (5 ≤ own k ∧ own k % 3 = 2)
      rw [← h1]
      rcases e with e | e <;> rw [e] <;> decide))
    clear hm ho hc gA g2
    simp only at e9
    go_wp2_with fail
    go_ret
    exact .inl ⟨by simp [MT.stops], _, own2, _, _, _, mv, ev', rfl, H5.out, by simp, set_at HX.out _, by simp [MM.act, MM.put, MM.tell, MT.next, MT.r], HO.out, HC3.out⟩)

set_option maxRecDepth 100000 in
set_option maxHeartbeats 2000000 in
theorem ins_note (h : MAt w base b own mm xs mv (.slice (some ⟨tb, 0, none⟩) xs.length cap) ev) (hx : xs[n]? = some x) {cal num : Int} {ra rb rc : Nat} (hra : ra < 8) (hrb : rb < 8) (hrc : rc < 8) (hat : 0 ≤ x.th.at_ ∧ x.th.at_ ≤ 262144) (a : Int) (hnum : 1 ≤ num ∧ num ≤ 8) (hev : mm.evs.length < 1000000000) (h4 : xs.length ≤ 4) :
    Calls Tryz.prog 154 #[.pointer (some ⟨b, 0, none⟩), .pointer (some ⟨tb, n * 13, none⟩), .agg #[.int .u8 12, .int .u8 cal, .int .u8 (ra : Int), .int .u8 (rb : Int), .int .u8 (rc : Int), .int .i64 num], .int .i64 a] w (WorkPost base b own mm xs tb cap n x ⟨12, cal, ra, rb, rc, num⟩ a w) := by
  have hb0 : Below w.heap.size w (w.alloc (.cells #[.int .u8 12, .int .u8 cal, .int .u8 (ra : Int), .int .u8 (rb : Int), .int .u8 (rc : Int), .int .i64 num] 107)) := (Below.refl _ _).alloc (Nat.le_refl _) _
  have h0 := h.below hb0
  have hbox := block_new w (.cells #[.int .u8 12, .int .u8 cal, .int .u8 (ra : Int), .int .u8 (rb : Int), .int .u8 (rc : Int), .int .i64 num] 107)
  have d1 : ((w.alloc (.cells #[.int .u8 12, .int .u8 cal, .int .u8 (ra : Int), .int .u8 (rb : Int), .int .u8 (rc : Int), .int .i64 num] 107))).cell? ⟨w.heap.size, 1, none⟩ = some (.int .u8 cal) := cell_of_block hbox rfl
  have d2 : ((w.alloc (.cells #[.int .u8 12, .int .u8 cal, .int .u8 (ra : Int), .int .u8 (rb : Int), .int .u8 (rc : Int), .int .i64 num] 107))).cell? ⟨w.heap.size, 2, none⟩ = some (.int .u8 (ra : Int)) := cell_of_block hbox rfl
  have d3 : ((w.alloc (.cells #[.int .u8 12, .int .u8 cal, .int .u8 (ra : Int), .int .u8 (rb : Int), .int .u8 (rc : Int), .int .i64 num] 107))).cell? ⟨w.heap.size, 3, none⟩ = some (.int .u8 (rb : Int)) := cell_of_block hbox rfl
  have d4 : ((w.alloc (.cells #[.int .u8 12, .int .u8 cal, .int .u8 (ra : Int), .int .u8 (rb : Int), .int .u8 (rc : Int), .int .i64 num] 107))).cell? ⟨w.heap.size, 4, none⟩ = some (.int .u8 (rc : Int)) := cell_of_block hbox rfl
  have d5 : ((w.alloc (.cells #[.int .u8 12, .int .u8 cal, .int .u8 (ra : Int), .int .u8 (rb : Int), .int .u8 (rc : Int), .int .i64 num] 107))).cell? ⟨w.heap.size, 5, none⟩ = some (.int .i64 num) := cell_of_block hbox rfl
  have rA : ((w.alloc (.cells #[.int .u8 12, .int .u8 cal, .int .u8 (ra : Int), .int .u8 (rb : Int), .int .u8 (rc : Int), .int .i64 num] 107))).cell? ⟨tb, n * 13 + 1 + ra, none⟩ = some (.int .i64 (x.th.reg ra)) := by rw [Nat.add_assoc]; exact h0.cell hx _ _ (encX_reg x ra hra)
  have rB : ((w.alloc (.cells #[.int .u8 12, .int .u8 cal, .int .u8 (ra : Int), .int .u8 (rb : Int), .int .u8 (rc : Int), .int .i64 num] 107))).cell? ⟨tb, n * 13 + 1 + rb, none⟩ = some (.int .i64 (x.th.reg rb)) := by rw [Nat.add_assoc]; exact h0.cell hx _ _ (encX_reg x rb hrb)
  have rC : ((w.alloc (.cells #[.int .u8 12, .int .u8 cal, .int .u8 (ra : Int), .int .u8 (rb : Int), .int .u8 (rc : Int), .int .i64 num] 107))).cell? ⟨tb, n * 13 + 1 + rc, none⟩ = some (.int .i64 (x.th.reg rc)) := by rw [Nat.add_assoc]; exact h0.cell hx _ _ (encX_reg x rc hrc)
  have cAt : ((w.alloc (.cells #[.int .u8 12, .int .u8 cal, .int .u8 (ra : Int), .int .u8 (rb : Int), .int .u8 (rc : Int), .int .i64 num] 107))).cell? ⟨tb, n * 13 + 9, none⟩ = some (.int .i64 x.th.at_) := h0.cell hx 9 _ rfl
  have hws : w.heap.size < (w.alloc (.cells #[.int .u8 12, .int .u8 cal, .int .u8 (ra : Int), .int .u8 (rb : Int), .int .u8 (rc : Int), .int .i64 num] 107)).heap.size := by simp
  have hAi : (ra : Int) < 8 := by omega
  have hBi : (rb : Int) < 8 := by omega
  have hCi : (rc : Int) < 8 := by omega
  have hn : n < xs.length := (List.getElem?_eq_some_iff.1 hx).1
  have fT := h0.free (tb := tb) (by omega : 0 < xs.length)
  have fA := fT (n * 13 + 1 + ra)
  have fB := fT (n * 13 + 1 + rb)
  have hw1 : IntKind.i64.wrap (x.th.at_ + 1) = x.th.at_ + 1 := IntWalk.i64_in _ (by omega)
  have hsz : tb ≠ w.heap.size := by have := (rowLt h.ths (g := tb) rfl).2; omega
  have HS := hidI hsz
  have HX := hidI hx
  have H := hidI h
  have H0 := hidI h0
  have HB := hidI hb0
  have eN : IntKind.u8.wrap num = num := by rw [IntKind.wrap_u8]; omega
  have HE := hidI hev
  have H4 := hidI h4
  clear hev h4 hnum
  clear h h0 hx hb0 hbox fT hat hsz
  go_enter Tryz.func154, Tryz.ntmps154
  go_wp2_with fail
  try generalize (w.alloc (.cells #[.int .u8 12, .int .u8 cal, .int .u8 (ra : Int), .int .u8 (rb : Int), .int .u8 (rc : Int), .int .i64 num] 107)) = w0 at H0 HB d1 d2 d3 d4 d5 rA rB rC cAt fA fB hws ⊢
  go_still_tail 19, (by kernel_rfl)
  go_wp2_with fail
  refine (event_any H0.out.drew HX.out HE.out H4.out num (x.th.reg ra) (x.th.reg rb)).mono ?_
  rintro e w1 ⟨rfl, hp⟩
  obtain ⟨⟨own', ev', hm, ho⟩, hc⟩ := hp
  have e9 := hm.cell HX.out 9 _ rfl
  have H2 := hidI hm
  have HO := hidI (show ∀ k, k < w.heap.size → own' k = own k from fun k hk => ho k (by have := HB.out.size; show k < w0.heap.size; omega))
  have HC2 := hidI (Chg.then_ (S := fun k => own k ≠ 0 ∧ ¬ (5 ≤ own k ∧ own k % 3 = 2)) (Chg.of_below HB.out) ((Chg.refl (fun k => own k = 1 ∨ own k = 4) w0).drew.trans hc) (fun k _ e => by rcases e with e | e <;> rw [e] <;> decide))
  clear hm ho hc rA rB rC cAt fA fB
  go_wp2_with fail
  go_ret
  exact .inl ⟨by simp [MT.stops], _, own', _, xs, x, mv, ev', rfl, H2.out, rfl, HX.out, by simp [MM.act, MM.put, MM.tell, MT.next, MT.r], HO.out, HC2.out⟩

set_option maxRecDepth 100000 in
set_option maxHeartbeats 2000000 in
theorem ins_trap (h : MAt w base b own mm xs mv (.slice (some ⟨tb, 0, none⟩) xs.length cap) ev) (hx : xs[n]? = some x) {cal num : Int} {ra rb rc : Nat} (hra : ra < 8) (hrb : rb < 8) (hrc : rc < 8) (hat : 0 ≤ x.th.at_ ∧ x.th.at_ ≤ 262144) (a : Int) (hnum : 2 ≤ num ∧ num ≤ 8) :
    Calls Tryz.prog 155 #[.pointer (some ⟨b, 0, none⟩), .pointer (some ⟨tb, n * 13, none⟩), .agg #[.int .u8 13, .int .u8 cal, .int .u8 (ra : Int), .int .u8 (rb : Int), .int .u8 (rc : Int), .int .i64 num], .int .i64 a] w (WorkPost base b own mm xs tb cap n x ⟨13, cal, ra, rb, rc, num⟩ a w) := by
  have hb0 : Below w.heap.size w (w.alloc (.cells #[.int .u8 13, .int .u8 cal, .int .u8 (ra : Int), .int .u8 (rb : Int), .int .u8 (rc : Int), .int .i64 num] 107)) := (Below.refl _ _).alloc (Nat.le_refl _) _
  have h0 := h.below hb0
  have hbox := block_new w (.cells #[.int .u8 13, .int .u8 cal, .int .u8 (ra : Int), .int .u8 (rb : Int), .int .u8 (rc : Int), .int .i64 num] 107)
  have d1 : ((w.alloc (.cells #[.int .u8 13, .int .u8 cal, .int .u8 (ra : Int), .int .u8 (rb : Int), .int .u8 (rc : Int), .int .i64 num] 107))).cell? ⟨w.heap.size, 1, none⟩ = some (.int .u8 cal) := cell_of_block hbox rfl
  have d2 : ((w.alloc (.cells #[.int .u8 13, .int .u8 cal, .int .u8 (ra : Int), .int .u8 (rb : Int), .int .u8 (rc : Int), .int .i64 num] 107))).cell? ⟨w.heap.size, 2, none⟩ = some (.int .u8 (ra : Int)) := cell_of_block hbox rfl
  have d3 : ((w.alloc (.cells #[.int .u8 13, .int .u8 cal, .int .u8 (ra : Int), .int .u8 (rb : Int), .int .u8 (rc : Int), .int .i64 num] 107))).cell? ⟨w.heap.size, 3, none⟩ = some (.int .u8 (rb : Int)) := cell_of_block hbox rfl
  have d4 : ((w.alloc (.cells #[.int .u8 13, .int .u8 cal, .int .u8 (ra : Int), .int .u8 (rb : Int), .int .u8 (rc : Int), .int .i64 num] 107))).cell? ⟨w.heap.size, 4, none⟩ = some (.int .u8 (rc : Int)) := cell_of_block hbox rfl
  have d5 : ((w.alloc (.cells #[.int .u8 13, .int .u8 cal, .int .u8 (ra : Int), .int .u8 (rb : Int), .int .u8 (rc : Int), .int .i64 num] 107))).cell? ⟨w.heap.size, 5, none⟩ = some (.int .i64 num) := cell_of_block hbox rfl
  have rA : ((w.alloc (.cells #[.int .u8 13, .int .u8 cal, .int .u8 (ra : Int), .int .u8 (rb : Int), .int .u8 (rc : Int), .int .i64 num] 107))).cell? ⟨tb, n * 13 + 1 + ra, none⟩ = some (.int .i64 (x.th.reg ra)) := by rw [Nat.add_assoc]; exact h0.cell hx _ _ (encX_reg x ra hra)
  have rB : ((w.alloc (.cells #[.int .u8 13, .int .u8 cal, .int .u8 (ra : Int), .int .u8 (rb : Int), .int .u8 (rc : Int), .int .i64 num] 107))).cell? ⟨tb, n * 13 + 1 + rb, none⟩ = some (.int .i64 (x.th.reg rb)) := by rw [Nat.add_assoc]; exact h0.cell hx _ _ (encX_reg x rb hrb)
  have rC : ((w.alloc (.cells #[.int .u8 13, .int .u8 cal, .int .u8 (ra : Int), .int .u8 (rb : Int), .int .u8 (rc : Int), .int .i64 num] 107))).cell? ⟨tb, n * 13 + 1 + rc, none⟩ = some (.int .i64 (x.th.reg rc)) := by rw [Nat.add_assoc]; exact h0.cell hx _ _ (encX_reg x rc hrc)
  have cAt : ((w.alloc (.cells #[.int .u8 13, .int .u8 cal, .int .u8 (ra : Int), .int .u8 (rb : Int), .int .u8 (rc : Int), .int .i64 num] 107))).cell? ⟨tb, n * 13 + 9, none⟩ = some (.int .i64 x.th.at_) := h0.cell hx 9 _ rfl
  have hws : w.heap.size < (w.alloc (.cells #[.int .u8 13, .int .u8 cal, .int .u8 (ra : Int), .int .u8 (rb : Int), .int .u8 (rc : Int), .int .i64 num] 107)).heap.size := by simp
  have hAi : (ra : Int) < 8 := by omega
  have hBi : (rb : Int) < 8 := by omega
  have hCi : (rc : Int) < 8 := by omega
  have hn : n < xs.length := (List.getElem?_eq_some_iff.1 hx).1
  have fT := h0.free (tb := tb) (by omega : 0 < xs.length)
  have fA := fT (n * 13 + 1 + ra)
  have fB := fT (n * 13 + 1 + rb)
  have hw1 : IntKind.i64.wrap (x.th.at_ + 1) = x.th.at_ + 1 := IntWalk.i64_in _ (by omega)
  have hsz : tb ≠ w.heap.size := by have := (rowLt h.ths (g := tb) rfl).2; omega
  have HS := hidI hsz
  have HX := hidI hx
  have H := hidI h
  have H0 := hidI h0
  have HB := hidI hb0
  have eN : IntKind.u8.wrap num = num := by rw [IntKind.wrap_u8]; omega
  clear h h0 hx hb0 hbox fT hat hsz
  go_enter Tryz.func155, Tryz.ntmps155
  go_wp2_with fail
  try generalize (w.alloc (.cells #[.int .u8 13, .int .u8 cal, .int .u8 (ra : Int), .int .u8 (rb : Int), .int .u8 (rc : Int), .int .i64 num] 107)) = w0 at H0 HB d1 d2 d3 d4 d5 rA rB rC cAt fA fB hws ⊢
  exact ⟨rfl, .inr ⟨num, by simp [MT.stops], rfl, HB.out, by simp [MM.act], by omega, by omega⟩⟩

set_option maxRecDepth 100000 in
set_option maxHeartbeats 2000000 in
theorem ins_halt (h : MAt w base b own mm xs mv (.slice (some ⟨tb, 0, none⟩) xs.length cap) ev) (hx : xs[n]? = some x) {cal num : Int} {ra rb rc : Nat} (hra : ra < 8) (hrb : rb < 8) (hrc : rc < 8) (hat : 0 ≤ x.th.at_ ∧ x.th.at_ ≤ 262144) (a : Int) :
    Calls Tryz.prog 156 #[.pointer (some ⟨b, 0, none⟩), .pointer (some ⟨tb, n * 13, none⟩), .agg #[.int .u8 14, .int .u8 cal, .int .u8 (ra : Int), .int .u8 (rb : Int), .int .u8 (rc : Int), .int .i64 num], .int .i64 a] w (WorkPost base b own mm xs tb cap n x ⟨14, cal, ra, rb, rc, num⟩ a w) := by
  have hb0 : Below w.heap.size w (w.alloc (.cells #[.int .u8 14, .int .u8 cal, .int .u8 (ra : Int), .int .u8 (rb : Int), .int .u8 (rc : Int), .int .i64 num] 107)) := (Below.refl _ _).alloc (Nat.le_refl _) _
  have h0 := h.below hb0
  have hbox := block_new w (.cells #[.int .u8 14, .int .u8 cal, .int .u8 (ra : Int), .int .u8 (rb : Int), .int .u8 (rc : Int), .int .i64 num] 107)
  have d1 : ((w.alloc (.cells #[.int .u8 14, .int .u8 cal, .int .u8 (ra : Int), .int .u8 (rb : Int), .int .u8 (rc : Int), .int .i64 num] 107))).cell? ⟨w.heap.size, 1, none⟩ = some (.int .u8 cal) := cell_of_block hbox rfl
  have d2 : ((w.alloc (.cells #[.int .u8 14, .int .u8 cal, .int .u8 (ra : Int), .int .u8 (rb : Int), .int .u8 (rc : Int), .int .i64 num] 107))).cell? ⟨w.heap.size, 2, none⟩ = some (.int .u8 (ra : Int)) := cell_of_block hbox rfl
  have d3 : ((w.alloc (.cells #[.int .u8 14, .int .u8 cal, .int .u8 (ra : Int), .int .u8 (rb : Int), .int .u8 (rc : Int), .int .i64 num] 107))).cell? ⟨w.heap.size, 3, none⟩ = some (.int .u8 (rb : Int)) := cell_of_block hbox rfl
  have d4 : ((w.alloc (.cells #[.int .u8 14, .int .u8 cal, .int .u8 (ra : Int), .int .u8 (rb : Int), .int .u8 (rc : Int), .int .i64 num] 107))).cell? ⟨w.heap.size, 4, none⟩ = some (.int .u8 (rc : Int)) := cell_of_block hbox rfl
  have d5 : ((w.alloc (.cells #[.int .u8 14, .int .u8 cal, .int .u8 (ra : Int), .int .u8 (rb : Int), .int .u8 (rc : Int), .int .i64 num] 107))).cell? ⟨w.heap.size, 5, none⟩ = some (.int .i64 num) := cell_of_block hbox rfl
  have rA : ((w.alloc (.cells #[.int .u8 14, .int .u8 cal, .int .u8 (ra : Int), .int .u8 (rb : Int), .int .u8 (rc : Int), .int .i64 num] 107))).cell? ⟨tb, n * 13 + 1 + ra, none⟩ = some (.int .i64 (x.th.reg ra)) := by rw [Nat.add_assoc]; exact h0.cell hx _ _ (encX_reg x ra hra)
  have rB : ((w.alloc (.cells #[.int .u8 14, .int .u8 cal, .int .u8 (ra : Int), .int .u8 (rb : Int), .int .u8 (rc : Int), .int .i64 num] 107))).cell? ⟨tb, n * 13 + 1 + rb, none⟩ = some (.int .i64 (x.th.reg rb)) := by rw [Nat.add_assoc]; exact h0.cell hx _ _ (encX_reg x rb hrb)
  have rC : ((w.alloc (.cells #[.int .u8 14, .int .u8 cal, .int .u8 (ra : Int), .int .u8 (rb : Int), .int .u8 (rc : Int), .int .i64 num] 107))).cell? ⟨tb, n * 13 + 1 + rc, none⟩ = some (.int .i64 (x.th.reg rc)) := by rw [Nat.add_assoc]; exact h0.cell hx _ _ (encX_reg x rc hrc)
  have cAt : ((w.alloc (.cells #[.int .u8 14, .int .u8 cal, .int .u8 (ra : Int), .int .u8 (rb : Int), .int .u8 (rc : Int), .int .i64 num] 107))).cell? ⟨tb, n * 13 + 9, none⟩ = some (.int .i64 x.th.at_) := h0.cell hx 9 _ rfl
  have hws : w.heap.size < (w.alloc (.cells #[.int .u8 14, .int .u8 cal, .int .u8 (ra : Int), .int .u8 (rb : Int), .int .u8 (rc : Int), .int .i64 num] 107)).heap.size := by simp
  have hAi : (ra : Int) < 8 := by omega
  have hBi : (rb : Int) < 8 := by omega
  have hCi : (rc : Int) < 8 := by omega
  have hn : n < xs.length := (List.getElem?_eq_some_iff.1 hx).1
  have fT := h0.free (tb := tb) (by omega : 0 < xs.length)
  have fA := fT (n * 13 + 1 + ra)
  have fB := fT (n * 13 + 1 + rb)
  have hw1 : IntKind.i64.wrap (x.th.at_ + 1) = x.th.at_ + 1 := IntWalk.i64_in _ (by omega)
  have hsz : tb ≠ w.heap.size := by have := (rowLt h.ths (g := tb) rfl).2; omega
  have HS := hidI hsz
  have HX := hidI hx
  have H := hidI h
  have H0 := hidI h0
  have HB := hidI hb0
  clear h h0 hx hb0 hbox fT hat hsz
  go_enter Tryz.func156, Tryz.ntmps156
  go_wp2_with fail
  try generalize (w.alloc (.cells #[.int .u8 14, .int .u8 cal, .int .u8 (ra : Int), .int .u8 (rb : Int), .int .u8 (rc : Int), .int .i64 num] 107)) = w0 at H0 HB d1 d2 d3 d4 d5 rA rB rC cAt fA fB hws ⊢
  exact ⟨rfl, .inr ⟨1, by simp [MT.stops], rfl, HB.out, by simp [MM.act], by omega, by omega⟩⟩
end Go.Proofs.YtopdcjimpdalpaaGreat

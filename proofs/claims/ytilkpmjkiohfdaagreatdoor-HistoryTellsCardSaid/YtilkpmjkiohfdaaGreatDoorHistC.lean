/- The contract of (*thread).take: events that turn the state. Written by mkhistc.py. -/
import Derived.Test.YtilkpmjkiohfdaaGreatDoorHistB
namespace Go.Proofs.YtilkpmjkiohfdaaGreatDoor
set_option linter.unusedVariables false
set_option linter.unusedSimpArgs false
open Go.RowKit

/-- the post of an event that is taken and begins no attempt -/
def TakeYes (S : Nat → Prop) (w : World) (R : World → Prop) (e : Ending) (w' : World) : Prop := e = .returned (.tuple #[.pointer none, .bool true]) ∧ Chg S w w' ∧ R w'

theorem set_at {tc : Array Value} {o : Nat} {u : Value} (h : tc[o]? = some u) (v : Value) : (tc.setIfInBounds o v)[o]? = some v := by
  obtain ⟨hlt, _⟩ := Array.getElem?_eq_some_iff.1 h
  simp [hlt]

theorem block_new3 (w : World) (p : Addr) (u : Value) (x y : Obj) : (((w.setCell p u).alloc x).alloc y).heap[w.heap.size + 1]? = some y := by
  have := block_new2 (w.setCell p u) x y
  rwa [show (w.setCell p u).heap.size = w.heap.size from by simp [World.setCell]] at this

/-- the post of a beginning -/
def TakeBegin (x : Ev) (at_ : Nat) (bt o : Nat) (tc : Array Value) (T : TypeId) (w : World) (e : Ending) (w' : World) : Prop :=
  ∃ g, w.heap.size ≤ g ∧ e = .returned (.tuple #[.pointer (some ⟨g, 0, none⟩), .bool true]) ∧ Chg (fun j => j = bt) w w' ∧
    w'.heap[g]? = some (.cells (encAtt (begun x at_) (.slice none 0 0)).toArray 138 (0, 0)) ∧ w'.heap[bt]? = some (.cells (tc.setIfInBounds o (.pointer (some ⟨g, 0, none⟩))) T (0, 0))

set_option maxHeartbeats 1000000 in
theorem take_begin {w : World} {bt o : Nat} {T : TypeId} {tc : Array Value} (x : Ev) (at_ : Nat)
    (hb : w.heap[bt]? = some (.cells tc T (0, 0))) (he : tc[o + 1]? = some (.bool false)) (ho : tc[o]? = some (.pointer none)) (hk : x.k = 1) :
    Calls Tryz.prog 139 #[.pointer (some ⟨bt, o, none⟩), evAgg x, .int .i64 (at_ : Int)] w (TakeBegin x at_ bt o tc T w) := by
  have de : (w.alloc (.cells #[.int .i64 x.th, .int .u8 x.k, .int .i64 x.a, .int .i64 x.b] 126)).cell? ⟨bt, o + 1, none⟩ = some (.bool false) := cell_of_block (block_alloc hb) he
  have fe : (w.alloc (.cells #[.int .i64 x.th, .int .u8 x.k, .int .i64 x.a, .int .i64 x.b] 126)).frozen? ⟨bt, o + 1, none⟩ = false := free_of_block (block_alloc hb)
  have dp : (w.alloc (.cells #[.int .i64 x.th, .int .u8 x.k, .int .i64 x.a, .int .i64 x.b] 126)).cell? ⟨bt, o, none⟩ = some (.pointer none) := cell_of_block (block_alloc hb) ho
  have fp : (w.alloc (.cells #[.int .i64 x.th, .int .u8 x.k, .int .i64 x.a, .int .i64 x.b] 126)).frozen? ⟨bt, o, none⟩ = false := free_of_block (block_alloc hb)
  have dq : (w.setCell ⟨bt, o, none⟩ (.pointer (some ⟨w.heap.size + 1, 0, none⟩))).cell? ⟨bt, o, none⟩ = some (.pointer (some ⟨w.heap.size + 1, 0, none⟩)) := cell_of_block (block_setCell _ hb) (set_at ho _)
  have HB := hidI hb
  clear hb he ho
  have hlt := lt_of_block HB.out
  obtain ⟨th, k, a, b⟩ := x
  simp only at hk
  subst hk
  unfold evAgg
  go_enter Tryz.func139, Tryz.ntmps139
  go_wp2_with fail
  go_ret2
  refine ⟨w.heap.size + 1, by omega, rfl, ?_, ?_, ?_⟩
  · exact (((Chg.refl (fun j => j = bt) w).setCell (p := ⟨bt, o, none⟩) (.inl rfl) _).alloc _).alloc _
  · exact block_new3 w _ _ _ _
  · exact block_alloc (block_alloc (block_setCell _ HB.out))

set_option maxHeartbeats 1000000 in
theorem take_out {w : World} {bt o : Nat} {T : TypeId} {tc : Array Value} (x : Ev) (at_ : Nat)
    (hb : w.heap[bt]? = some (.cells tc T (0, 0))) (he : tc[o + 1]? = some (.bool false)) (ho : tc[o]? = some (.pointer none)) (hk : x.k = 9) :
    Calls Tryz.prog 139 #[.pointer (some ⟨bt, o, none⟩), evAgg x, .int .i64 (at_ : Int)] w (TakeYes (fun _ => False) w fun _ => True) := by
  have de : (w.alloc (.cells #[.int .i64 x.th, .int .u8 x.k, .int .i64 x.a, .int .i64 x.b] 126)).cell? ⟨bt, o + 1, none⟩ = some (.bool false) := cell_of_block (block_alloc hb) he
  have fe : (w.alloc (.cells #[.int .i64 x.th, .int .u8 x.k, .int .i64 x.a, .int .i64 x.b] 126)).frozen? ⟨bt, o + 1, none⟩ = false := free_of_block (block_alloc hb)
  have dp : (w.alloc (.cells #[.int .i64 x.th, .int .u8 x.k, .int .i64 x.a, .int .i64 x.b] 126)).cell? ⟨bt, o, none⟩ = some (.pointer none) := cell_of_block (block_alloc hb) ho
  have fp : (w.alloc (.cells #[.int .i64 x.th, .int .u8 x.k, .int .i64 x.a, .int .i64 x.b] 126)).frozen? ⟨bt, o, none⟩ = false := free_of_block (block_alloc hb)
  clear hb he ho
  obtain ⟨th, k, a, b⟩ := x
  simp only at hk
  subst hk
  unfold evAgg
  go_enter Tryz.func139, Tryz.ntmps139
  go_wp2_with fail
  go_ret2
  exact ⟨rfl, (Chg.refl _ w).alloc _, trivial⟩

set_option maxHeartbeats 1000000 in
theorem take_halt {w : World} {bt o : Nat} {T : TypeId} {tc : Array Value} (x : Ev) (at_ : Nat)
    (hb : w.heap[bt]? = some (.cells tc T (0, 0))) (he : tc[o + 1]? = some (.bool false)) (ho : tc[o]? = some (.pointer none)) (hk : x.k = 10) :
    Calls Tryz.prog 139 #[.pointer (some ⟨bt, o, none⟩), evAgg x, .int .i64 (at_ : Int)] w (TakeYes (fun j => j = bt) w fun w' => w'.heap[bt]? = some (.cells (tc.setIfInBounds (o + 1) (.bool true)) T (0, 0))) := by
  have de : (w.alloc (.cells #[.int .i64 x.th, .int .u8 x.k, .int .i64 x.a, .int .i64 x.b] 126)).cell? ⟨bt, o + 1, none⟩ = some (.bool false) := cell_of_block (block_alloc hb) he
  have fe : (w.alloc (.cells #[.int .i64 x.th, .int .u8 x.k, .int .i64 x.a, .int .i64 x.b] 126)).frozen? ⟨bt, o + 1, none⟩ = false := free_of_block (block_alloc hb)
  have dp : (w.alloc (.cells #[.int .i64 x.th, .int .u8 x.k, .int .i64 x.a, .int .i64 x.b] 126)).cell? ⟨bt, o, none⟩ = some (.pointer none) := cell_of_block (block_alloc hb) ho
  have fp : (w.alloc (.cells #[.int .i64 x.th, .int .u8 x.k, .int .i64 x.a, .int .i64 x.b] 126)).frozen? ⟨bt, o, none⟩ = false := free_of_block (block_alloc hb)
  have HB := hidI hb
  clear hb he ho
  have hlt := lt_of_block HB.out
  obtain ⟨th, k, a, b⟩ := x
  simp only at hk
  subst hk
  unfold evAgg
  go_enter Tryz.func139, Tryz.ntmps139
  go_wp2_with fail
  go_ret2
  exact ⟨rfl, ((Chg.refl (fun j => j = bt) w).setCell (p := ⟨bt, o + 1, none⟩) (.inl rfl) _).alloc _, block_alloc (block_setCell _ HB.out)⟩

set_option maxHeartbeats 1000000 in
theorem take_trap {w : World} {bt o : Nat} {T : TypeId} {tc : Array Value} (x : Ev) (at_ : Nat)
    (hb : w.heap[bt]? = some (.cells tc T (0, 0))) (he : tc[o + 1]? = some (.bool false)) (ho : tc[o]? = some (.pointer none)) (hk : x.k = 11) :
    Calls Tryz.prog 139 #[.pointer (some ⟨bt, o, none⟩), evAgg x, .int .i64 (at_ : Int)] w (TakeYes (fun j => j = bt) w fun w' => w'.heap[bt]? = some (.cells (tc.setIfInBounds (o + 1) (.bool true)) T (0, 0))) := by
  have de : (w.alloc (.cells #[.int .i64 x.th, .int .u8 x.k, .int .i64 x.a, .int .i64 x.b] 126)).cell? ⟨bt, o + 1, none⟩ = some (.bool false) := cell_of_block (block_alloc hb) he
  have fe : (w.alloc (.cells #[.int .i64 x.th, .int .u8 x.k, .int .i64 x.a, .int .i64 x.b] 126)).frozen? ⟨bt, o + 1, none⟩ = false := free_of_block (block_alloc hb)
  have dp : (w.alloc (.cells #[.int .i64 x.th, .int .u8 x.k, .int .i64 x.a, .int .i64 x.b] 126)).cell? ⟨bt, o, none⟩ = some (.pointer none) := cell_of_block (block_alloc hb) ho
  have fp : (w.alloc (.cells #[.int .i64 x.th, .int .u8 x.k, .int .i64 x.a, .int .i64 x.b] 126)).frozen? ⟨bt, o, none⟩ = false := free_of_block (block_alloc hb)
  have HB := hidI hb
  clear hb he ho
  have hlt := lt_of_block HB.out
  obtain ⟨th, k, a, b⟩ := x
  simp only at hk
  subst hk
  unfold evAgg
  go_enter Tryz.func139, Tryz.ntmps139
  go_wp2_with fail
  go_ret2
  exact ⟨rfl, ((Chg.refl (fun j => j = bt) w).setCell (p := ⟨bt, o + 1, none⟩) (.inl rfl) _).alloc _, block_alloc (block_setCell _ HB.out)⟩

set_option maxHeartbeats 1000000 in
theorem take_abort {w : World} {bt o : Nat} {T : TypeId} {tc : Array Value} (x : Ev) (at_ : Nat)
    (hb : w.heap[bt]? = some (.cells tc T (0, 0))) (he : tc[o + 1]? = some (.bool false)) {g : Nat} (ho : tc[o]? = some (.pointer (some ⟨g, 0, none⟩))) (hk : x.k = 8) {t : Att} {dv : Value}
    (hg : w.heap[g]? = some (.cells (encAtt t dv).toArray 138 (0, 0))) (hn : bt ≠ g) :
    Calls Tryz.prog 139 #[.pointer (some ⟨bt, o, none⟩), evAgg x, .int .i64 (at_ : Int)] w (TakeYes (fun j => j = bt ∨ j = g) w fun w' => w'.heap[g]? = some (.cells (encAtt (closed 2 at_ t) dv).toArray 138 (0, 0)) ∧ w'.heap[bt]? = some (.cells (tc.setIfInBounds o (.pointer none)) T (0, 0))) := by
  have de : (w.alloc (.cells #[.int .i64 x.th, .int .u8 x.k, .int .i64 x.a, .int .i64 x.b] 126)).cell? ⟨bt, o + 1, none⟩ = some (.bool false) := cell_of_block (block_alloc hb) he
  have fe : (w.alloc (.cells #[.int .i64 x.th, .int .u8 x.k, .int .i64 x.a, .int .i64 x.b] 126)).frozen? ⟨bt, o + 1, none⟩ = false := free_of_block (block_alloc hb)
  have dp : (w.alloc (.cells #[.int .i64 x.th, .int .u8 x.k, .int .i64 x.a, .int .i64 x.b] 126)).cell? ⟨bt, o, none⟩ = some (.pointer (some ⟨g, 0, none⟩)) := cell_of_block (block_alloc hb) ho
  have fp : (w.alloc (.cells #[.int .i64 x.th, .int .u8 x.k, .int .i64 x.a, .int .i64 x.b] 126)).frozen? ⟨bt, o, none⟩ = false := free_of_block (block_alloc hb)
  have HB := hidI hb
  have HG := hidI hg
  have HO := hidI ho
  clear hb he ho hg
  have hlt := lt_of_block HB.out
  obtain ⟨th, k, a, b⟩ := x
  simp only at hk
  subst hk
  unfold evAgg
  go_enter Tryz.func139, Tryz.ntmps139
  go_wp2_with fail
  refine (end_any _ _ (block_alloc HB.out) HO.out (block_alloc HG.out) hn).mono ?_
  rintro e w1 ⟨rfl, g1, g2, g3, -⟩
  have G1 := hidI g1
  have G2 := hidI g2
  have G3 := hidI g3
  clear g1 g2 g3
  go_wp2_with fail
  go_ret2
  exact ⟨rfl, ((Chg.refl _ w).alloc _).trans G3.out, G1.out, G2.out⟩

set_option maxHeartbeats 2000000 in
theorem take_trapped {w : World} {bt o : Nat} {T : TypeId} {tc : Array Value} (x : Ev) (at_ : Nat)
    (hb : w.heap[bt]? = some (.cells tc T (0, 0))) (he : tc[o + 1]? = some (.bool false)) {g : Nat} (ho : tc[o]? = some (.pointer (some ⟨g, 0, none⟩))) (hk : x.k = 11) {t : Att} {dv : Value}
    (hg : w.heap[g]? = some (.cells (encAtt t dv).toArray 138 (0, 0))) (hn : bt ≠ g) :
    Calls Tryz.prog 139 #[.pointer (some ⟨bt, o, none⟩), evAgg x, .int .i64 (at_ : Int)] w (TakeYes (fun j => j = bt ∨ j = g) w fun w' => w'.heap[g]? = some (.cells (encAtt (closed 3 at_ t) dv).toArray 138 (0, 0)) ∧
      w'.heap[bt]? = some (.cells ((tc.setIfInBounds o (.pointer none)).setIfInBounds (o + 1) (.bool true)) T (0, 0))) := by
  have de : (w.alloc (.cells #[.int .i64 x.th, .int .u8 x.k, .int .i64 x.a, .int .i64 x.b] 126)).cell? ⟨bt, o + 1, none⟩ = some (.bool false) := cell_of_block (block_alloc hb) he
  have fe : (w.alloc (.cells #[.int .i64 x.th, .int .u8 x.k, .int .i64 x.a, .int .i64 x.b] 126)).frozen? ⟨bt, o + 1, none⟩ = false := free_of_block (block_alloc hb)
  have dp : (w.alloc (.cells #[.int .i64 x.th, .int .u8 x.k, .int .i64 x.a, .int .i64 x.b] 126)).cell? ⟨bt, o, none⟩ = some (.pointer (some ⟨g, 0, none⟩)) := cell_of_block (block_alloc hb) ho
  have fp : (w.alloc (.cells #[.int .i64 x.th, .int .u8 x.k, .int .i64 x.a, .int .i64 x.b] 126)).frozen? ⟨bt, o, none⟩ = false := free_of_block (block_alloc hb)
  have HB := hidI hb
  have HG := hidI hg
  have HO := hidI ho
  have HE := hidI he
  clear hb he ho hg
  have hlt := lt_of_block HB.out
  obtain ⟨th, k, a, b⟩ := x
  simp only at hk
  subst hk
  unfold evAgg
  go_enter Tryz.func139, Tryz.ntmps139
  go_wp2_with fail
  refine (end_any _ _ (block_alloc HB.out) HO.out (block_alloc HG.out) hn).mono ?_
  rintro e w1 ⟨rfl, g1, g2, g3, -⟩
  have q1 : w1.cell? ⟨bt, o + 1, none⟩ = some (.bool false) := cell_of_block g2 (by rw [Array.getElem?_setIfInBounds_ne (by omega)]; exact HE.out)
  have q2 := free_of_block (o := o + 1) g2
  have G1 := hidI g1
  have G2 := hidI g2
  have G3 := hidI g3
  clear g1 g2 g3
  go_wp2_with fail
  go_ret2
  exact ⟨rfl, (((Chg.refl _ w).alloc _).trans G3.out).setCell (p := ⟨bt, o + 1, none⟩) (.inl (.inl rfl)) _, block_other G1.out (fun e => hn e.symm), block_setCell _ G2.out⟩

set_option maxHeartbeats 4000000 in
theorem take_commit {w : World} {bt o : Nat} {T : TypeId} {tc : Array Value} (x : Ev) (at_ : Nat)
    (hb : w.heap[bt]? = some (.cells tc T (0, 0))) (he : tc[o + 1]? = some (.bool false)) {g : Nat} (ho : tc[o]? = some (.pointer (some ⟨g, 0, none⟩))) (hk : x.k = 7) {t : Att} {dv : Value}
    (hg : w.heap[g]? = some (.cells (encAtt t dv).toArray 138 (0, 0))) (hn : bt ≠ g) :
    Calls Tryz.prog 139 #[.pointer (some ⟨bt, o, none⟩), evAgg x, .int .i64 (at_ : Int)] w (TakeYes (fun j => j = bt ∨ j = g) w fun w' => w'.heap[g]? = some (.cells (encAtt (committed x at_ t) dv).toArray 138 (0, 0)) ∧
      w'.heap[bt]? = some (.cells (tc.setIfInBounds o (.pointer none)) T (0, 0))) := by
  have de : (w.alloc (.cells #[.int .i64 x.th, .int .u8 x.k, .int .i64 x.a, .int .i64 x.b] 126)).cell? ⟨bt, o + 1, none⟩ = some (.bool false) := cell_of_block (block_alloc hb) he
  have fe : (w.alloc (.cells #[.int .i64 x.th, .int .u8 x.k, .int .i64 x.a, .int .i64 x.b] 126)).frozen? ⟨bt, o + 1, none⟩ = false := free_of_block (block_alloc hb)
  have dp : (w.alloc (.cells #[.int .i64 x.th, .int .u8 x.k, .int .i64 x.a, .int .i64 x.b] 126)).cell? ⟨bt, o, none⟩ = some (.pointer (some ⟨g, 0, none⟩)) := cell_of_block (block_alloc hb) ho
  have fp : (w.alloc (.cells #[.int .i64 x.th, .int .u8 x.k, .int .i64 x.a, .int .i64 x.b] 126)).frozen? ⟨bt, o, none⟩ = false := free_of_block (block_alloc hb)
  have HB := hidI hb
  have HG := hidI hg
  have HO := hidI ho
  have e5 : (w.alloc (.cells #[.int .i64 x.th, .int .u8 x.k, .int .i64 x.a, .int .i64 x.b] 126)).cell? ⟨g, 5, none⟩ = some (.int .i64 t.place) := cell_of_block (block_alloc hg) rfl
  have e6 : (w.alloc (.cells #[.int .i64 x.th, .int .u8 x.k, .int .i64 x.a, .int .i64 x.b] 126)).cell? ⟨g, 6, none⟩ = some (.bool t.writer) := cell_of_block (block_alloc hg) rfl
  have e7 : (w.alloc (.cells #[.int .i64 x.th, .int .u8 x.k, .int .i64 x.a, .int .i64 x.b] 126)).frozen? ⟨g, 5, none⟩ = false := free_of_block (block_alloc hg)
  have e8 : (w.alloc (.cells #[.int .i64 x.th, .int .u8 x.k, .int .i64 x.a, .int .i64 x.b] 126)).frozen? ⟨g, 6, none⟩ = false := free_of_block (block_alloc hg)
  clear hb he ho hg
  have hlt := lt_of_block HB.out
  obtain ⟨th, k, a, b⟩ := x
  simp only at hk
  subst hk
  unfold evAgg
  go_enter Tryz.func139, Tryz.ntmps139
  go_wp2_with fail
  go_region
  go_wp2_with fail
  refine (end_any (a := { t with place := a, writer := b == 1 }) (dv := dv) (tc := tc) (T := T) _ _ ?h1 HO.out ?h2 hn).mono ?_
  case h1 => exact block_other (block_other (block_alloc HB.out) hn) hn
  case h2 => exact block_setCell _ (block_setCell _ (block_alloc HG.out))
  rintro e w1 ⟨rfl, g1, g2, g3, -⟩
  have G1 := hidI g1
  have G2 := hidI g2
  have G3 := hidI g3
  clear g1 g2 g3
  go_wp2_with fail
  go_ret2
  exact ⟨rfl, (((((Chg.refl _ w).alloc _).setCell (p := ⟨g, 5, none⟩) (.inl (.inr rfl)) _).setCell (p := ⟨g, 6, none⟩) (.inl (.inr rfl)) _).drew).trans G3.out, G1.out, G2.out⟩

end Go.Proofs.YtilkpmjkiohfdaaGreatDoor

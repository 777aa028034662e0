/- The document's attempts: take. (Written by mkrc.py.) -/
import Derived.Test.YtlphjkgjcfhihaaHistRB
import Derived.Test.YtlphjkgjcfhihaaHistU
namespace Go.Proofs.Ytlphjkgjcfhihaa
open Go.RowKit
set_option linter.unusedVariables false
set_option linter.unusedSimpArgs false

/-- what take leaves -/
def RTake (base bs : Nat) (v : Value) (ps : List (Att × Value)) (s' : HS) (w : World) (e : Ending) (w' : World) : Prop := ∃ v', e = .returned v' ∧ TakeR w w' base bs v ps s' v'

theorem TakeR.pre {w w1 w' : World} {base bs : Nat} {v v' : Value} {ps : List (Att × Value)} {s' : HS} (hb : Below w.heap.size w w1) (h : TakeR w1 w' base bs v ps s' v') : TakeR w w' base bs v ps s' v' := by
  obtain ⟨ps', h1, h2, h3⟩ := h
  exact ⟨ps', h1, (Chg.of_below hb).trans h2, fun k hk => (h3 k hk).imp id (fun q => Nat.le_trans hb.size q)⟩
theorem TakeR.same {w w' : World} {base bs : Nat} {v : Value} {ps : List (Att × Value)} {s : HS} (h : HeldR w base bs v ps s) (hb : Below w.heap.size w w') : TakeR w w' base bs v ps s v :=
  ⟨ps, h.below hb, Chg.of_below hb, fun k hk => .inl hk⟩
theorem TakeR.post {w w1 w' : World} {base bs : Nat} {v v' : Value} {ps : List (Att × Value)} {s' : HS} (h : TakeR w w1 base bs v ps s' v') (hb : Below w1.heap.size w1 w') : TakeR w w' base bs v ps s' v' := by
  obtain ⟨ps', h1, h2, h3⟩ := h
  exact ⟨ps', h1.below hb, h2.then_ (Chg.of_below (S := fun _ => False) hb) (fun _ _ q => q.elim), h3⟩
theorem one_att (a : Att) {ao : Option Addr} {n c : Nat} : ∀ u ∈ encAtt a (.slice ao n c), u.oneCell' = true := by
  intro u hu
  simp [encAtt] at hu
  rcases hu with rfl | rfl | rfl | rfl | rfl | rfl | rfl | rfl <;> rfl
theorem store_att {w : World} {base g n vc j : Nat} {cs : List Value} (hown : w.ownsRow base 73 8 (.slice (some ⟨g, 0, none⟩) n vc) n cs) (hj : j < n) (a : Att) {ao : Option Addr} {m c : Nat} :
    Sem.run Try.prog (storeCells ⟨g, j * 8, none⟩ (encAtt a (.slice ao m c)) 0) w = .ok () (w.setCells g (j * 8) (encAtt a (.slice ao m c))) := by
  obtain ⟨g', cur, e2, _, hgb, hnc, _⟩ := ownsRow_some hown (by omega)
  simp only [Option.some.injEq, Addr.mk.injEq, and_true] at e2
  subst e2
  have hsz : n * 8 ≤ cur.size := rowSize hown hgb
  have hin : ∀ i, i < 8 → j * 8 + i < cur.size := fun i hi => by omega
  have := run_storeCells_cells (P := Try.prog) g (j * 8) (encAtt a (.slice ao m c)) 0 w (fun i hi => by
      rw [Nat.add_zero, cell_of_block hgb (Array.getElem?_eq_getElem (hin i (by simpa [encAtt] using hi)))]; rfl) (fun i _ => free_of_block hgb) (fun v hv => one_att a v hv)
  simpa using this

set_option maxRecDepth 100000 in
set_option maxHeartbeats 4000000 in
theorem rtk_out {w : World} {base bs : Nat} {v : Value} {ps : List (Att × Value)} {s : HS} (h : HeldR w base bs v ps s) (t : Nat) (a b : Int) (i : Nat) (ht : t < 4) :
    Calls Try.prog 19 #[.pointer (some ⟨bs, 0, none⟩), v, evV ⟨t, 9, a, b⟩, .int .i64 i] w (RTake base bs v ps s w) := by
  obtain ⟨vo, vc, rfl⟩ := ownsRow_shape h.row
  have d0 : ∀ o, (w.alloc o).cell? ⟨bs, t, none⟩ = some (.int .i64 (openI (s.opn t))) := fun o => cell_of_block (block_alloc h.st) (encStand_opn s ht)
  have H := hidI h
  clear h
  unfold evV
  go_enter Try.func19, Try.ntmps19
  go_wp2_with fail
  go_quiet (fail)
  obtain ⟨w1, hw1⟩ : ∃ x, x = (w.alloc (.cells #[.int .i64 t, .int .u8 9, .int .i64 a, .int .i64 b] 57)).drewN nq := ⟨_, rfl⟩
  rw [← hw1]
  have HB1 := hidI (show Below w.heap.size w w1 from by rw [hw1]; exact below_drewN ((Below.refl _ _).alloc (Nat.le_refl _) _) nq)
  have HEB := hidI (show w1.heap[w.heap.size]? = some (.cells #[.int .i64 t, .int .u8 9, .int .i64 a, .int .i64 b] 57) from by rw [hw1]; exact block_new w _)
  clear hw1 d0
  have HT := hidI (H.out.below HB1.out)
  have q0 := cell_of_block (o := 0) HEB.out rfl
  have q1 := cell_of_block (o := 1) HEB.out rfl
  have q2 := cell_of_block (o := 2) HEB.out rfl
  have q3 := cell_of_block (o := 3) HEB.out rfl
  simp only [List.getElem_toArray, List.getElem_cons_zero, List.getElem_cons_succ] at q0 q1 q2 q3
  have d0 : w1.cell? ⟨bs, t, none⟩ = some (.int .i64 (openI (s.opn t))) := cell_of_block HT.out.st (encStand_opn s ht)
  have e0 : w1.cell? ⟨bs, 4 + t, none⟩ = some (.bool (s.ended t)) := cell_of_block HT.out.st (encStand_ended s ht)
  have fb : ∀ o, w1.frozen? ⟨bs, o, none⟩ = false := fun o => free_of_block HT.out.st
  have fb0 := fb t
  have fb1 := fb (4 + t)
  have hlb := lt_of_block HT.out.st
  have ht4 : (t : Int) < 4 := by omega
  clear fb
  go_wp2_with fail
  go_ret
  exact ⟨_, rfl, TakeR.pre HB1.out (TakeR.same HT.out (Below.refl _ _))⟩

set_option maxRecDepth 100000 in
set_option maxHeartbeats 4000000 in
theorem rtk_halt {w : World} {base bs : Nat} {v : Value} {ps : List (Att × Value)} {s : HS} (h : HeldR w base bs v ps s) (t : Nat) (a b : Int) (i : Nat) (ht : t < 4) :
    Calls Try.prog 19 #[.pointer (some ⟨bs, 0, none⟩), v, evV ⟨t, 10, a, b⟩, .int .i64 i] w (RTake base bs v ps ⟨s.atts, s.opn, upd s.ended t true⟩ w) := by
  obtain ⟨vo, vc, rfl⟩ := ownsRow_shape h.row
  have d0 : ∀ o, (w.alloc o).cell? ⟨bs, t, none⟩ = some (.int .i64 (openI (s.opn t))) := fun o => cell_of_block (block_alloc h.st) (encStand_opn s ht)
  have H := hidI h
  clear h
  unfold evV
  go_enter Try.func19, Try.ntmps19
  go_wp2_with fail
  go_quiet (fail)
  obtain ⟨w1, hw1⟩ : ∃ x, x = (w.alloc (.cells #[.int .i64 t, .int .u8 10, .int .i64 a, .int .i64 b] 57)).drewN nq := ⟨_, rfl⟩
  rw [← hw1]
  have HB1 := hidI (show Below w.heap.size w w1 from by rw [hw1]; exact below_drewN ((Below.refl _ _).alloc (Nat.le_refl _) _) nq)
  have HEB := hidI (show w1.heap[w.heap.size]? = some (.cells #[.int .i64 t, .int .u8 10, .int .i64 a, .int .i64 b] 57) from by rw [hw1]; exact block_new w _)
  clear hw1 d0
  have HT := hidI (H.out.below HB1.out)
  have q0 := cell_of_block (o := 0) HEB.out rfl
  have q1 := cell_of_block (o := 1) HEB.out rfl
  have q2 := cell_of_block (o := 2) HEB.out rfl
  have q3 := cell_of_block (o := 3) HEB.out rfl
  simp only [List.getElem_toArray, List.getElem_cons_zero, List.getElem_cons_succ] at q0 q1 q2 q3
  have d0 : w1.cell? ⟨bs, t, none⟩ = some (.int .i64 (openI (s.opn t))) := cell_of_block HT.out.st (encStand_opn s ht)
  have e0 : w1.cell? ⟨bs, 4 + t, none⟩ = some (.bool (s.ended t)) := cell_of_block HT.out.st (encStand_ended s ht)
  have fb : ∀ o, w1.frozen? ⟨bs, o, none⟩ = false := fun o => free_of_block HT.out.st
  have fb0 := fb t
  have fb1 := fb (4 + t)
  have hlb := lt_of_block HT.out.st
  have ht4 : (t : Int) < 4 := by omega
  clear fb
  go_wp2_with fail
  go_region_law (fail)
  all_goals (
    go_wp2_with fail
    go_ret
    refine ⟨_, rfl, TakeR.pre HB1.out (HT.out.stand ?_ ?_ rfl)⟩
    · exact ((Chg.refl (fun k => k = bs) w1).drew.setCell (p := ⟨bs, 4 + t, none⟩) (.inl rfl) _)
    · rw [← encStand_set_ended s ht]; exact block_setCell (w := w1.drew) _ HT.out.st)

set_option maxRecDepth 100000 in
set_option maxHeartbeats 4000000 in
theorem rtk_trap0 {w : World} {base bs : Nat} {v : Value} {ps : List (Att × Value)} {s : HS} (h : HeldR w base bs v ps s) (t : Nat) (a b : Int) (i : Nat) (ht : t < 4) (ho : s.opn t = none) :
    Calls Try.prog 19 #[.pointer (some ⟨bs, 0, none⟩), v, evV ⟨t, 11, a, b⟩, .int .i64 i] w (RTake base bs v ps ⟨s.atts, s.opn, upd s.ended t true⟩ w) := by
  obtain ⟨vo, vc, rfl⟩ := ownsRow_shape h.row
  have d0 : ∀ o, (w.alloc o).cell? ⟨bs, t, none⟩ = some (.int .i64 (openI (s.opn t))) := fun o => cell_of_block (block_alloc h.st) (encStand_opn s ht)
  have H := hidI h
  clear h
  unfold evV
  go_enter Try.func19, Try.ntmps19
  go_wp2_with fail
  go_quiet (fail)
  obtain ⟨w1, hw1⟩ : ∃ x, x = (w.alloc (.cells #[.int .i64 t, .int .u8 11, .int .i64 a, .int .i64 b] 57)).drewN nq := ⟨_, rfl⟩
  rw [← hw1]
  have HB1 := hidI (show Below w.heap.size w w1 from by rw [hw1]; exact below_drewN ((Below.refl _ _).alloc (Nat.le_refl _) _) nq)
  have HEB := hidI (show w1.heap[w.heap.size]? = some (.cells #[.int .i64 t, .int .u8 11, .int .i64 a, .int .i64 b] 57) from by rw [hw1]; exact block_new w _)
  clear hw1 d0
  have HT := hidI (H.out.below HB1.out)
  have q0 := cell_of_block (o := 0) HEB.out rfl
  have q1 := cell_of_block (o := 1) HEB.out rfl
  have q2 := cell_of_block (o := 2) HEB.out rfl
  have q3 := cell_of_block (o := 3) HEB.out rfl
  simp only [List.getElem_toArray, List.getElem_cons_zero, List.getElem_cons_succ] at q0 q1 q2 q3
  have d0 : w1.cell? ⟨bs, t, none⟩ = some (.int .i64 (openI (s.opn t))) := cell_of_block HT.out.st (encStand_opn s ht)
  have e0 : w1.cell? ⟨bs, 4 + t, none⟩ = some (.bool (s.ended t)) := cell_of_block HT.out.st (encStand_ended s ht)
  have fb : ∀ o, w1.frozen? ⟨bs, o, none⟩ = false := fun o => free_of_block HT.out.st
  have fb0 := fb t
  have fb1 := fb (4 + t)
  have hlb := lt_of_block HT.out.st
  have ht4 : (t : Int) < 4 := by omega
  clear fb
  have ho9 : openI (s.opn t) = -1 := by rw [ho]; rfl
  rw [ho9] at d0
  go_wp2_with fail
  go_region_law (fail)
  all_goals (
    go_wp2_with fail
    go_ret
    refine ⟨_, rfl, TakeR.pre HB1.out (HT.out.stand ?_ ?_ rfl)⟩
    · exact ((Chg.refl (fun k => k = bs) w1).drew.setCell (p := ⟨bs, 4 + t, none⟩) (.inl rfl) _)
    · rw [← encStand_set_ended s ht]; exact block_setCell (w := w1.drew) _ HT.out.st)

set_option maxRecDepth 100000 in
set_option maxHeartbeats 4000000 in
theorem rtk_begin {w : World} {base bs : Nat} {v : Value} {ps : List (Att × Value)} {s : HS} (h : HeldR w base bs v ps s) (t : Nat) (a b : Int) (i : Nat) (ht : t < 4) (ho : s.opn t = none) (hlen : ps.length ≤ 262144) (hbase : base ≤ w.heap.size) :
    Calls Try.prog 19 #[.pointer (some ⟨bs, 0, none⟩), v, evV ⟨t, 1, a, b⟩, .int .i64 i] w (RTake base bs v ps ⟨s.atts ++ [begun ⟨t, 1, a, b⟩ i], upd s.opn t (some s.atts.length), s.ended⟩ w) := by
  obtain ⟨vo, vc, rfl⟩ := ownsRow_shape h.row
  have d0 : ∀ o, (w.alloc o).cell? ⟨bs, t, none⟩ = some (.int .i64 (openI (s.opn t))) := fun o => cell_of_block (block_alloc h.st) (encStand_opn s ht)
  have H := hidI h
  clear h
  unfold evV
  go_enter Try.func19, Try.ntmps19
  go_wp2_with fail
  go_quiet (fail)
  obtain ⟨w1, hw1⟩ : ∃ x, x = (w.alloc (.cells #[.int .i64 t, .int .u8 1, .int .i64 a, .int .i64 b] 57)).drewN nq := ⟨_, rfl⟩
  rw [← hw1]
  have HB1 := hidI (show Below w.heap.size w w1 from by rw [hw1]; exact below_drewN ((Below.refl _ _).alloc (Nat.le_refl _) _) nq)
  have HEB := hidI (show w1.heap[w.heap.size]? = some (.cells #[.int .i64 t, .int .u8 1, .int .i64 a, .int .i64 b] 57) from by rw [hw1]; exact block_new w _)
  clear hw1 d0
  have HT := hidI (H.out.below HB1.out)
  have q0 := cell_of_block (o := 0) HEB.out rfl
  have q1 := cell_of_block (o := 1) HEB.out rfl
  have q2 := cell_of_block (o := 2) HEB.out rfl
  have q3 := cell_of_block (o := 3) HEB.out rfl
  simp only [List.getElem_toArray, List.getElem_cons_zero, List.getElem_cons_succ] at q0 q1 q2 q3
  have d0 : w1.cell? ⟨bs, t, none⟩ = some (.int .i64 (openI (s.opn t))) := cell_of_block HT.out.st (encStand_opn s ht)
  have e0 : w1.cell? ⟨bs, 4 + t, none⟩ = some (.bool (s.ended t)) := cell_of_block HT.out.st (encStand_ended s ht)
  have fb : ∀ o, w1.frozen? ⟨bs, o, none⟩ = false := fun o => free_of_block HT.out.st
  have fb0 := fb t
  have fb1 := fb (4 + t)
  have hlb := lt_of_block HT.out.st
  have ht4 : (t : Int) < 4 := by omega
  clear fb
  obtain ⟨i1, gi, gz0, gz1, gz2⟩ := info_parts attInfo
  have hpl : s.atts.length = ps.length := by rw [← HT.out.fst, List.length_map]
  go_wp2_with fail
  go_region_law (fail)
  all_goals (
    have hc2 := ((Chg.refl (fun k => k = bs) w1).setCell (p := ⟨bs, t, none⟩) (.inl rfl) (.int .i64 (ps.length : Int))).drew
    have hs2 : (w1.setCell ⟨bs, t, none⟩ (.int .i64 (ps.length : Int))).drew.heap[bs]? = some (.cells (encStand ⟨s.atts ++ [begun ⟨t, 1, a, b⟩ i], upd s.opn t (some s.atts.length), s.ended⟩).toArray 63 (0, 0)) := by
      rw [← encStand_set_opn s ht]
      have := block_setCell (o := t) (.int .i64 (ps.length : Int)) HT.out.st
      rw [hpl]
      exact this
    generalize (w1.setCell ⟨bs, t, none⟩ (.int .i64 (ps.length : Int))).drew = w2 at hc2 hs2 ⊢
    have hE2 := chgblk hc2 HEB.out (by have := lt_of_block H.out.st; omega)
    clear q0 q1 q2 q3 d0 e0 fb0 fb1
    have q0 := cell_of_block (o := 0) hE2 rfl
    have q1 := cell_of_block (o := 1) hE2 rfl
    have q2 := cell_of_block (o := 2) hE2 rfl
    have q3 := cell_of_block (o := 3) hE2 rfl
    simp only [List.getElem_toArray, List.getElem_cons_zero, List.getElem_cons_succ] at q0 q1 q2 q3
    have HC2 := hidI hc2
    have HS2 := hidI hs2
    clear hc2 hs2 hE2
    go_wp2_with fail
    refine (rbegun_any _ ⟨t, 1, a, b⟩ i).mono ?_
    rintro e w3 ⟨rfl, hb3⟩
    have HC3 := hidI (HC2.out.trans (Chg.of_below hb3))
    have HS3 := hidI (blk hb3 HS2.out)
    have HR3 := hidI (ownsRow_chg HT.out.row HC3.out (fun g hg e => by have := rowLt HT.out.row hg; have := HT.out.bb; omega))
    have hsz3 := HC3.out.size
    have hsz1 := HB1.out.size
    clear hb3 q0 q1 q2 q3
    go_wp2_with (at_builtin; refine wpList_append_d _ rfl _ _ 30 rfl base 73 i1 _ 8 80 Try.underlying30 gi gz0 gz1 gz2 rfl (by decide) _ _ _ rfl (ownsRow_chg HR3.out ((Chg.refl (fun _ => False) w3).alloc _) (fun _ _ => id)) ⟨w3.heap.size, 0, none⟩ 1 1 (encAtt (begun ⟨t, 1, a, b⟩ i) (.slice none 0 0)) rfl rfl ?c1 ?c2 ?c3 ?c4 ?c5 ?_)
    case c1 => exact news_at (block_new _ _)
    case c2 => exact one_att _
    case c3 => unfold maxLen; omega
    case c4 => omega
    case c5 => simp; omega
    intro ao4 c4 w4 hown hfrom hgrown
    have HK := hidI (HT.out.begin (s' := ⟨s.atts ++ [begun ⟨t, 1, a, b⟩ i], upd s.opn t (some s.atts.length), s.ended⟩) (a := begun ⟨t, 1, a, b⟩ i) (HC3.out.alloc _) (block_alloc HS3.out) hgrown hown (fun g hg => (hfrom g hg).imp id (fun q => by omega)) rfl rfl)
    clear hown hfrom hgrown
    go_wp2_with fail
    go_ret
    exact ⟨_, rfl, TakeR.pre HB1.out HK.out⟩)

set_option maxRecDepth 100000 in
set_option maxHeartbeats 4000000 in
theorem rtk_more {w : World} {base bs : Nat} {v : Value} {ps : List (Att × Value)} {s : HS} (h : HeldR w base bs v ps s) (t : Nat) (xk : Int) (j : Nat) (p : Att × Value) (a b : Int) (i : Nat) (ht : t < 4) (hk : 2 ≤ xk ∧ xk ≤ 6) (ho : s.opn t = some j) (hp : ps[j]? = some p) (hdl : p.1.done.length ≤ 262144) (hlen : ps.length ≤ 262144) (hbase : base ≤ w.heap.size) :
    Calls Try.prog 19 #[.pointer (some ⟨bs, 0, none⟩), v, evV ⟨t, xk, a, b⟩, .int .i64 i] w (RTake base bs v ps ⟨s.atts.modify j (more ⟨t, xk, a, b⟩), s.opn, s.ended⟩ w) := by
  obtain ⟨vo, vc, rfl⟩ := ownsRow_shape h.row
  have d0 : ∀ o, (w.alloc o).cell? ⟨bs, t, none⟩ = some (.int .i64 (openI (s.opn t))) := fun o => cell_of_block (block_alloc h.st) (encStand_opn s ht)
  have H := hidI h
  clear h
  unfold evV
  go_enter Try.func19, Try.ntmps19
  go_wp2_with fail
  go_quiet (fail)
  obtain ⟨w1, hw1⟩ : ∃ x, x = (w.alloc (.cells #[.int .i64 t, .int .u8 xk, .int .i64 a, .int .i64 b] 57)).drewN nq := ⟨_, rfl⟩
  rw [← hw1]
  have HB1 := hidI (show Below w.heap.size w w1 from by rw [hw1]; exact below_drewN ((Below.refl _ _).alloc (Nat.le_refl _) _) nq)
  have HEB := hidI (show w1.heap[w.heap.size]? = some (.cells #[.int .i64 t, .int .u8 xk, .int .i64 a, .int .i64 b] 57) from by rw [hw1]; exact block_new w _)
  clear hw1 d0
  have HT := hidI (H.out.below HB1.out)
  have q0 := cell_of_block (o := 0) HEB.out rfl
  have q1 := cell_of_block (o := 1) HEB.out rfl
  have q2 := cell_of_block (o := 2) HEB.out rfl
  have q3 := cell_of_block (o := 3) HEB.out rfl
  simp only [List.getElem_toArray, List.getElem_cons_zero, List.getElem_cons_succ] at q0 q1 q2 q3
  have d0 : w1.cell? ⟨bs, t, none⟩ = some (.int .i64 (openI (s.opn t))) := cell_of_block HT.out.st (encStand_opn s ht)
  have e0 : w1.cell? ⟨bs, 4 + t, none⟩ = some (.bool (s.ended t)) := cell_of_block HT.out.st (encStand_ended s ht)
  have fb : ∀ o, w1.frozen? ⟨bs, o, none⟩ = false := fun o => free_of_block HT.out.st
  have fb0 := fb t
  have fb1 := fb (4 + t)
  have hlb := lt_of_block HT.out.st
  have ht4 : (t : Int) < 4 := by omega
  clear fb
  obtain ⟨p, dv⟩ := p
  have hdo := HT.out.own j _ hp
  obtain ⟨dvo, dvc, rfl⟩ : ∃ ao c, dv = .slice ao p.done.length c := ownsRow_shape hdo
  obtain ⟨g, cur, rfl, hgb, hgc, _, hcur⟩ := ownsRow_some HT.out.row (by have := (List.getElem?_eq_some_iff.1 hp).1; omega)
  have hjl := (List.getElem?_eq_some_iff.1 hp).1
  have ho9 : openI (s.opn t) = j := by rw [ho]; rfl
  have ho8 : openI (some j) = (j : Int) := rfl
  rw [ho9] at d0
  have hgs := lt_of_block hgc
  have hgbs : ¬ g = bs := by have := HT.out.bb; omega
  have hxw := fun i => fun u (hu : (encP2 (p, .slice dvo p.done.length dvc))[i]? = some u) => cell_of_block hgc (hcur _ _ (flat_at encP2_len ps hp i u hu))
  have x0 := hxw 0 _ rfl
  have x1 := hxw 1 _ rfl
  have x2 := hxw 2 _ rfl
  have x3 := hxw 3 _ rfl
  have x4 := hxw 4 _ rfl
  have x5 := hxw 5 _ rfl
  have x6 := hxw 6 _ rfl
  have x7 := hxw 7 _ rfl
  simp only [Nat.add_zero] at x0
  have gf := fun o => free_of_block (o := o) hgc
  have HP := hidI hp
  have HGC := hidI hgc
  have HCUR := hidI hcur
  have HDO := hidI hdo
  clear hxw hcur hp hdo
  have e1 : (xk == 1) = false := by simp; omega
  have e9 : (xk == 9) = false := by simp; omega
  have e10 : (xk == 10) = false := by simp; omega
  have k2 : 2 ≤ xk := hk.1
  have k6 : xk ≤ 6 := hk.2
  obtain ⟨i0, hi, hz0, hz1, hz2⟩ := info_parts evInfo
  have hsz1 := HB1.out.size
  have gf7 := gf (j * 8 + 7)
  clear gf
  go_wp2_with fail
  go_region_law (first
    | (refine step_append_d (by rfl) (.tmp 66) (.tmp 68) 24 (by rfl) base 57 i0 _ 4 32 Try.underlying24 hi hz0 hz1 hz2 rfl (by decide) (.slice dvo p.done.length dvc) p.done.length (p.done.flatMap encEv) (by simp [Act.eval]) (by exact ownsRow_chg HDO.out (((Chg.refl (fun _ => False) w1).alloc _).drew) (fun _ _ => id)) ⟨w1.heap.size, 0, none⟩ 1 1 (by decide) (encEv ⟨t, xk, a, b⟩) (by simp [Act.eval]) rfl (by exact news_at (block_new w1 _)) (one_ev _) (by unfold maxLen; omega) (by omega) (by show base ≤ (w1.alloc _).heap.size; rw [World.size_alloc]; omega) ?_; intro ao5 cp5 w5 h1 h2 h3; have HO5 := hidI h1; have HF5 := hidI h2; have HG5 := hidI h3; have hg5 : w5.heap[g]? = some (.cells cur 73 (0, 0)) := (by rw [h3.block g (by show g < (w1.alloc _).heap.size; rw [World.size_alloc]; omega) (fun e => HT.out.ne j g _ HP.out e.symm rfl)]; exact block_alloc HGC.out); have s0 : w5.cell? ⟨g, j * 8 + 7, none⟩ = some (.slice dvo p.done.length dvc) := (World.cell?_of_block (w := w1) (by rw [hg5, HGC.out])).trans x7; have s1 : w5.frozen? ⟨g, j * 8 + 7, none⟩ = false := free_of_block hg5; clear h1 h2 h3 hg5))
  all_goals (
    have HK := hidI (HT.out.moreEv (x := ⟨t, xk, a, b⟩) (s' := ⟨s.atts.modify j (more ⟨t, xk, a, b⟩), s.opn, s.ended⟩) HP.out rfl (((Chg.refl (fun _ => False) w1).alloc _).drew) HG5.out HO5.out (fun d hd => (HF5.out d hd).imp id (fun q => by have q2 : (w1.alloc _).heap.size ≤ d := q; rw [World.size_alloc] at q2; omega)) rfl rfl)
    clear s0 s1
    go_wp2_with fail
    go_ret
    exact ⟨_, rfl, TakeR.pre HB1.out HK.out⟩)

set_option maxRecDepth 100000 in
set_option maxHeartbeats 4000000 in
theorem rtk_close7 {w : World} {base bs : Nat} {v : Value} {ps : List (Att × Value)} {s : HS} (h : HeldR w base bs v ps s) (t : Nat) (j : Nat) (p : Att × Value) (a b : Int) (i : Nat) (ht : t < 4) (ho : s.opn t = some j) (hp : ps[j]? = some p) (hlen : ps.length ≤ 262144) :
    Calls Try.prog 19 #[.pointer (some ⟨bs, 0, none⟩), v, evV ⟨t, 7, a, b⟩, .int .i64 i] w (RTake base bs v ps ⟨s.atts.modify j (committed ⟨t, 7, a, b⟩ i), upd s.opn t none, s.ended⟩ w) := by
  obtain ⟨vo, vc, rfl⟩ := ownsRow_shape h.row
  have d0 : ∀ o, (w.alloc o).cell? ⟨bs, t, none⟩ = some (.int .i64 (openI (s.opn t))) := fun o => cell_of_block (block_alloc h.st) (encStand_opn s ht)
  have H := hidI h
  clear h
  unfold evV
  go_enter Try.func19, Try.ntmps19
  go_wp2_with fail
  go_quiet (fail)
  obtain ⟨w1, hw1⟩ : ∃ x, x = (w.alloc (.cells #[.int .i64 t, .int .u8 7, .int .i64 a, .int .i64 b] 57)).drewN nq := ⟨_, rfl⟩
  rw [← hw1]
  have HB1 := hidI (show Below w.heap.size w w1 from by rw [hw1]; exact below_drewN ((Below.refl _ _).alloc (Nat.le_refl _) _) nq)
  have HEB := hidI (show w1.heap[w.heap.size]? = some (.cells #[.int .i64 t, .int .u8 7, .int .i64 a, .int .i64 b] 57) from by rw [hw1]; exact block_new w _)
  clear hw1 d0
  have HT := hidI (H.out.below HB1.out)
  have q0 := cell_of_block (o := 0) HEB.out rfl
  have q1 := cell_of_block (o := 1) HEB.out rfl
  have q2 := cell_of_block (o := 2) HEB.out rfl
  have q3 := cell_of_block (o := 3) HEB.out rfl
  simp only [List.getElem_toArray, List.getElem_cons_zero, List.getElem_cons_succ] at q0 q1 q2 q3
  have d0 : w1.cell? ⟨bs, t, none⟩ = some (.int .i64 (openI (s.opn t))) := cell_of_block HT.out.st (encStand_opn s ht)
  have e0 : w1.cell? ⟨bs, 4 + t, none⟩ = some (.bool (s.ended t)) := cell_of_block HT.out.st (encStand_ended s ht)
  have fb : ∀ o, w1.frozen? ⟨bs, o, none⟩ = false := fun o => free_of_block HT.out.st
  have fb0 := fb t
  have fb1 := fb (4 + t)
  have hlb := lt_of_block HT.out.st
  have ht4 : (t : Int) < 4 := by omega
  clear fb
  obtain ⟨p, dv⟩ := p
  have hdo := HT.out.own j _ hp
  obtain ⟨dvo, dvc, rfl⟩ : ∃ ao c, dv = .slice ao p.done.length c := ownsRow_shape hdo
  obtain ⟨g, cur, rfl, hgb, hgc, _, hcur⟩ := ownsRow_some HT.out.row (by have := (List.getElem?_eq_some_iff.1 hp).1; omega)
  have hjl := (List.getElem?_eq_some_iff.1 hp).1
  have ho9 : openI (s.opn t) = j := by rw [ho]; rfl
  have ho8 : openI (some j) = (j : Int) := rfl
  rw [ho9] at d0
  have hgs := lt_of_block hgc
  have hgbs : ¬ g = bs := by have := HT.out.bb; omega
  have hxw := fun i => fun u (hu : (encP2 (p, .slice dvo p.done.length dvc))[i]? = some u) => cell_of_block hgc (hcur _ _ (flat_at encP2_len ps hp i u hu))
  have x0 := hxw 0 _ rfl
  have x1 := hxw 1 _ rfl
  have x2 := hxw 2 _ rfl
  have x3 := hxw 3 _ rfl
  have x4 := hxw 4 _ rfl
  have x5 := hxw 5 _ rfl
  have x6 := hxw 6 _ rfl
  have x7 := hxw 7 _ rfl
  simp only [Nat.add_zero] at x0
  have gf := fun o => free_of_block (o := o) hgc
  have HP := hidI hp
  have HGC := hidI hgc
  have HCUR := hidI hcur
  have HDO := hidI hdo
  clear hxw hcur hp hdo
  have HC := hidI (show ∀ w, Calls Try.prog 33 #[.agg (encAtt p (.slice dvo p.done.length dvc)).toArray, evV ⟨t, 7, a, b⟩, .int .i64 i] w fun e w' => e = .returned (.agg (encAtt ((committed ⟨t, 7, a, b⟩ i) p) (.slice dvo p.done.length dvc)).toArray) ∧ Below w.heap.size w w' from fun w => by
    have h9 := rclosed_any w p (.slice dvo p.done.length dvc) ⟨t, 7, a, b⟩ i rfl
    rw [show closedOf ⟨t, 7, a, b⟩ i p = (committed ⟨t, 7, a, b⟩ i) p from by simp [closedOf, committed, closed]] at h9
    exact h9)
  clear gf
  go_wp2_with fail
  have HCW := hidI (Chg.refl (fun k => k = bs) w1)
  have HSW := hidI HT.out.st
  have HEW := HEB
  have HRW := hidI HT.out.row
  go_region_law (first | (go_simp; go_at_call 33; refine (HC.out _).mono ?_; rintro e4 w4 ⟨rfl, hb4⟩; have HB4 := hidI hb4; have hst := store_att (ownsRow_chg HRW.out ((Chg.refl (fun _ => False) w1).drew.trans (Chg.of_below hb4)) (fun _ _ => id)) hjl ((committed ⟨t, 7, a, b⟩ i) p) (ao := dvo) (m := p.done.length) (c := dvc); have hl8 : (encAtt ((committed ⟨t, 7, a, b⟩ i) p) (.slice dvo p.done.length dvc)).length = 8 := rfl; clear hb4; dsimp only))
  all_goals (
    clear hst x0 x1 x2 x3 x4 x5 x6 x7 q0 q1 q2 q3 d0 e0 fb0 fb1
    obtain ⟨W5, hW5⟩ : ∃ x, x = w4.setCells g (j * 8) (encAtt ((committed ⟨t, 7, a, b⟩ i) p) (.slice dvo p.done.length dvc)) := ⟨_, rfl⟩
    rw [← hW5]
    have hc4 : Chg (fun _ => False) w1 w4 := (Chg.refl (fun _ => False) w1).drew.trans (Chg.of_below HB4.out)
    have hc5 : Chg (fun k => k = g) w1 W5 := by rw [hW5]; exact Chg.setCellsAttempt (S := fun k => k = g) rfl _ _ (Chg.then_ (T := fun _ => False) (Chg.refl _ w1) hc4 (fun _ _ q => q.elim))
    have hs5 := chgblk hc5 HSW.out (fun e => hgbs e.symm)
    have hE5 := chgblk hc5 HEW.out (by have := rowLt H.out.row (g := g) rfl; omega)
    have q0 := cell_of_block (o := 0) hE5 rfl
    have q1 := cell_of_block (o := 1) hE5 rfl
    have q2 := cell_of_block (o := 2) hE5 rfl
    have q3 := cell_of_block (o := 3) hE5 rfl
    simp only [List.getElem_toArray, List.getElem_cons_zero, List.getElem_cons_succ] at q0 q1 q2 q3
    have d0 : W5.cell? ⟨bs, t, none⟩ = some (.int .i64 (openI (s.opn t))) := cell_of_block hs5 (encStand_opn s ht)
    have fb0 : W5.frozen? ⟨bs, t, none⟩ = false := free_of_block hs5
    have HC4 := hidI hc4
    have HW5 := hidI hW5
    clear hc4 hc5 hs5 hE5 hW5
    go_wp2_with fail
    go_region_law (fail)
    all_goals (
      go_wp2_with fail
      go_ret
      refine ⟨_, rfl, TakeR.pre HB1.out (TakeR.post (HT.out.close (s' := ⟨s.atts.modify j (committed ⟨t, 7, a, b⟩ i), upd s.opn t none, s.ended⟩) (f := committed ⟨t, 7, a, b⟩ i) (o := t) (u := .int .i64 (-1)) HP.out rfl (HCW.out.trans (Chg.then_ (T := fun _ => False) (Chg.refl _ w1) HC4.out (fun _ _ q => q.elim))) (chgblk HC4.out HSW.out id) (encStand_set_opn s ht none (s.atts.modify j (committed ⟨t, 7, a, b⟩ i))) rfl rfl) ?_)⟩
      rw [← HW5.out]
      exact (Below.refl _ _).drew))

set_option maxRecDepth 100000 in
set_option maxHeartbeats 4000000 in
theorem rtk_close8 {w : World} {base bs : Nat} {v : Value} {ps : List (Att × Value)} {s : HS} (h : HeldR w base bs v ps s) (t : Nat) (j : Nat) (p : Att × Value) (a b : Int) (i : Nat) (ht : t < 4) (ho : s.opn t = some j) (hp : ps[j]? = some p) (hlen : ps.length ≤ 262144) :
    Calls Try.prog 19 #[.pointer (some ⟨bs, 0, none⟩), v, evV ⟨t, 8, a, b⟩, .int .i64 i] w (RTake base bs v ps ⟨s.atts.modify j (closed 2 i), upd s.opn t none, s.ended⟩ w) := by
  obtain ⟨vo, vc, rfl⟩ := ownsRow_shape h.row
  have d0 : ∀ o, (w.alloc o).cell? ⟨bs, t, none⟩ = some (.int .i64 (openI (s.opn t))) := fun o => cell_of_block (block_alloc h.st) (encStand_opn s ht)
  have H := hidI h
  clear h
  unfold evV
  go_enter Try.func19, Try.ntmps19
  go_wp2_with fail
  go_quiet (fail)
  obtain ⟨w1, hw1⟩ : ∃ x, x = (w.alloc (.cells #[.int .i64 t, .int .u8 8, .int .i64 a, .int .i64 b] 57)).drewN nq := ⟨_, rfl⟩
  rw [← hw1]
  have HB1 := hidI (show Below w.heap.size w w1 from by rw [hw1]; exact below_drewN ((Below.refl _ _).alloc (Nat.le_refl _) _) nq)
  have HEB := hidI (show w1.heap[w.heap.size]? = some (.cells #[.int .i64 t, .int .u8 8, .int .i64 a, .int .i64 b] 57) from by rw [hw1]; exact block_new w _)
  clear hw1 d0
  have HT := hidI (H.out.below HB1.out)
  have q0 := cell_of_block (o := 0) HEB.out rfl
  have q1 := cell_of_block (o := 1) HEB.out rfl
  have q2 := cell_of_block (o := 2) HEB.out rfl
  have q3 := cell_of_block (o := 3) HEB.out rfl
  simp only [List.getElem_toArray, List.getElem_cons_zero, List.getElem_cons_succ] at q0 q1 q2 q3
  have d0 : w1.cell? ⟨bs, t, none⟩ = some (.int .i64 (openI (s.opn t))) := cell_of_block HT.out.st (encStand_opn s ht)
  have e0 : w1.cell? ⟨bs, 4 + t, none⟩ = some (.bool (s.ended t)) := cell_of_block HT.out.st (encStand_ended s ht)
  have fb : ∀ o, w1.frozen? ⟨bs, o, none⟩ = false := fun o => free_of_block HT.out.st
  have fb0 := fb t
  have fb1 := fb (4 + t)
  have hlb := lt_of_block HT.out.st
  have ht4 : (t : Int) < 4 := by omega
  clear fb
  obtain ⟨p, dv⟩ := p
  have hdo := HT.out.own j _ hp
  obtain ⟨dvo, dvc, rfl⟩ : ∃ ao c, dv = .slice ao p.done.length c := ownsRow_shape hdo
  obtain ⟨g, cur, rfl, hgb, hgc, _, hcur⟩ := ownsRow_some HT.out.row (by have := (List.getElem?_eq_some_iff.1 hp).1; omega)
  have hjl := (List.getElem?_eq_some_iff.1 hp).1
  have ho9 : openI (s.opn t) = j := by rw [ho]; rfl
  have ho8 : openI (some j) = (j : Int) := rfl
  rw [ho9] at d0
  have hgs := lt_of_block hgc
  have hgbs : ¬ g = bs := by have := HT.out.bb; omega
  have hxw := fun i => fun u (hu : (encP2 (p, .slice dvo p.done.length dvc))[i]? = some u) => cell_of_block hgc (hcur _ _ (flat_at encP2_len ps hp i u hu))
  have x0 := hxw 0 _ rfl
  have x1 := hxw 1 _ rfl
  have x2 := hxw 2 _ rfl
  have x3 := hxw 3 _ rfl
  have x4 := hxw 4 _ rfl
  have x5 := hxw 5 _ rfl
  have x6 := hxw 6 _ rfl
  have x7 := hxw 7 _ rfl
  simp only [Nat.add_zero] at x0
  have gf := fun o => free_of_block (o := o) hgc
  have HP := hidI hp
  have HGC := hidI hgc
  have HCUR := hidI hcur
  have HDO := hidI hdo
  clear hxw hcur hp hdo
  have HC := hidI (show ∀ w, Calls Try.prog 33 #[.agg (encAtt p (.slice dvo p.done.length dvc)).toArray, evV ⟨t, 8, a, b⟩, .int .i64 i] w fun e w' => e = .returned (.agg (encAtt ((closed 2 i) p) (.slice dvo p.done.length dvc)).toArray) ∧ Below w.heap.size w w' from fun w => by
    have h9 := rclosed_any w p (.slice dvo p.done.length dvc) ⟨t, 8, a, b⟩ i rfl
    rw [show closedOf ⟨t, 8, a, b⟩ i p = (closed 2 i) p from by simp [closedOf, committed, closed]] at h9
    exact h9)
  clear gf
  go_wp2_with fail
  have HCW := hidI (Chg.refl (fun k => k = bs) w1)
  have HSW := hidI HT.out.st
  have HEW := HEB
  have HRW := hidI HT.out.row
  go_region_law (first | (go_simp; go_at_call 33; refine (HC.out _).mono ?_; rintro e4 w4 ⟨rfl, hb4⟩; have HB4 := hidI hb4; have hst := store_att (ownsRow_chg HRW.out ((Chg.refl (fun _ => False) w1).drew.trans (Chg.of_below hb4)) (fun _ _ => id)) hjl ((closed 2 i) p) (ao := dvo) (m := p.done.length) (c := dvc); have hl8 : (encAtt ((closed 2 i) p) (.slice dvo p.done.length dvc)).length = 8 := rfl; clear hb4; dsimp only))
  all_goals (
    clear hst x0 x1 x2 x3 x4 x5 x6 x7 q0 q1 q2 q3 d0 e0 fb0 fb1
    obtain ⟨W5, hW5⟩ : ∃ x, x = w4.setCells g (j * 8) (encAtt ((closed 2 i) p) (.slice dvo p.done.length dvc)) := ⟨_, rfl⟩
    rw [← hW5]
    have hc4 : Chg (fun _ => False) w1 w4 := (Chg.refl (fun _ => False) w1).drew.trans (Chg.of_below HB4.out)
    have hc5 : Chg (fun k => k = g) w1 W5 := by rw [hW5]; exact Chg.setCellsAttempt (S := fun k => k = g) rfl _ _ (Chg.then_ (T := fun _ => False) (Chg.refl _ w1) hc4 (fun _ _ q => q.elim))
    have hs5 := chgblk hc5 HSW.out (fun e => hgbs e.symm)
    have hE5 := chgblk hc5 HEW.out (by have := rowLt H.out.row (g := g) rfl; omega)
    have q0 := cell_of_block (o := 0) hE5 rfl
    have q1 := cell_of_block (o := 1) hE5 rfl
    have q2 := cell_of_block (o := 2) hE5 rfl
    have q3 := cell_of_block (o := 3) hE5 rfl
    simp only [List.getElem_toArray, List.getElem_cons_zero, List.getElem_cons_succ] at q0 q1 q2 q3
    have d0 : W5.cell? ⟨bs, t, none⟩ = some (.int .i64 (openI (s.opn t))) := cell_of_block hs5 (encStand_opn s ht)
    have fb0 : W5.frozen? ⟨bs, t, none⟩ = false := free_of_block hs5
    have HC4 := hidI hc4
    have HW5 := hidI hW5
    clear hc4 hc5 hs5 hE5 hW5
    go_wp2_with fail
    go_region_law (fail)
    all_goals (
      go_wp2_with fail
      go_ret
      refine ⟨_, rfl, TakeR.pre HB1.out (TakeR.post (HT.out.close (s' := ⟨s.atts.modify j (closed 2 i), upd s.opn t none, s.ended⟩) (f := closed 2 i) (o := t) (u := .int .i64 (-1)) HP.out rfl (HCW.out.trans (Chg.then_ (T := fun _ => False) (Chg.refl _ w1) HC4.out (fun _ _ q => q.elim))) (chgblk HC4.out HSW.out id) (encStand_set_opn s ht none (s.atts.modify j (closed 2 i))) rfl rfl) ?_)⟩
      rw [← HW5.out]
      exact (Below.refl _ _).drew))

set_option maxRecDepth 100000 in
set_option maxHeartbeats 4000000 in
theorem rtk_close11 {w : World} {base bs : Nat} {v : Value} {ps : List (Att × Value)} {s : HS} (h : HeldR w base bs v ps s) (t : Nat) (j : Nat) (p : Att × Value) (a b : Int) (i : Nat) (ht : t < 4) (ho : s.opn t = some j) (hp : ps[j]? = some p) (hlen : ps.length ≤ 262144) :
    Calls Try.prog 19 #[.pointer (some ⟨bs, 0, none⟩), v, evV ⟨t, 11, a, b⟩, .int .i64 i] w (RTake base bs v ps ⟨s.atts.modify j (closed 3 i), upd s.opn t none, upd s.ended t true⟩ w) := by
  obtain ⟨vo, vc, rfl⟩ := ownsRow_shape h.row
  have d0 : ∀ o, (w.alloc o).cell? ⟨bs, t, none⟩ = some (.int .i64 (openI (s.opn t))) := fun o => cell_of_block (block_alloc h.st) (encStand_opn s ht)
  have H := hidI h
  clear h
  unfold evV
  go_enter Try.func19, Try.ntmps19
  go_wp2_with fail
  go_quiet (fail)
  obtain ⟨w1, hw1⟩ : ∃ x, x = (w.alloc (.cells #[.int .i64 t, .int .u8 11, .int .i64 a, .int .i64 b] 57)).drewN nq := ⟨_, rfl⟩
  rw [← hw1]
  have HB1 := hidI (show Below w.heap.size w w1 from by rw [hw1]; exact below_drewN ((Below.refl _ _).alloc (Nat.le_refl _) _) nq)
  have HEB := hidI (show w1.heap[w.heap.size]? = some (.cells #[.int .i64 t, .int .u8 11, .int .i64 a, .int .i64 b] 57) from by rw [hw1]; exact block_new w _)
  clear hw1 d0
  have HT := hidI (H.out.below HB1.out)
  have q0 := cell_of_block (o := 0) HEB.out rfl
  have q1 := cell_of_block (o := 1) HEB.out rfl
  have q2 := cell_of_block (o := 2) HEB.out rfl
  have q3 := cell_of_block (o := 3) HEB.out rfl
  simp only [List.getElem_toArray, List.getElem_cons_zero, List.getElem_cons_succ] at q0 q1 q2 q3
  have d0 : w1.cell? ⟨bs, t, none⟩ = some (.int .i64 (openI (s.opn t))) := cell_of_block HT.out.st (encStand_opn s ht)
  have e0 : w1.cell? ⟨bs, 4 + t, none⟩ = some (.bool (s.ended t)) := cell_of_block HT.out.st (encStand_ended s ht)
  have fb : ∀ o, w1.frozen? ⟨bs, o, none⟩ = false := fun o => free_of_block HT.out.st
  have fb0 := fb t
  have fb1 := fb (4 + t)
  have hlb := lt_of_block HT.out.st
  have ht4 : (t : Int) < 4 := by omega
  clear fb
  obtain ⟨p, dv⟩ := p
  have hdo := HT.out.own j _ hp
  obtain ⟨dvo, dvc, rfl⟩ : ∃ ao c, dv = .slice ao p.done.length c := ownsRow_shape hdo
  obtain ⟨g, cur, rfl, hgb, hgc, _, hcur⟩ := ownsRow_some HT.out.row (by have := (List.getElem?_eq_some_iff.1 hp).1; omega)
  have hjl := (List.getElem?_eq_some_iff.1 hp).1
  have ho9 : openI (s.opn t) = j := by rw [ho]; rfl
  have ho8 : openI (some j) = (j : Int) := rfl
  rw [ho9] at d0
  have hgs := lt_of_block hgc
  have hgbs : ¬ g = bs := by have := HT.out.bb; omega
  have hxw := fun i => fun u (hu : (encP2 (p, .slice dvo p.done.length dvc))[i]? = some u) => cell_of_block hgc (hcur _ _ (flat_at encP2_len ps hp i u hu))
  have x0 := hxw 0 _ rfl
  have x1 := hxw 1 _ rfl
  have x2 := hxw 2 _ rfl
  have x3 := hxw 3 _ rfl
  have x4 := hxw 4 _ rfl
  have x5 := hxw 5 _ rfl
  have x6 := hxw 6 _ rfl
  have x7 := hxw 7 _ rfl
  simp only [Nat.add_zero] at x0
  have gf := fun o => free_of_block (o := o) hgc
  have HP := hidI hp
  have HGC := hidI hgc
  have HCUR := hidI hcur
  have HDO := hidI hdo
  clear hxw hcur hp hdo
  have HC := hidI (show ∀ w, Calls Try.prog 33 #[.agg (encAtt p (.slice dvo p.done.length dvc)).toArray, evV ⟨t, 11, a, b⟩, .int .i64 i] w fun e w' => e = .returned (.agg (encAtt ((closed 3 i) p) (.slice dvo p.done.length dvc)).toArray) ∧ Below w.heap.size w w' from fun w => by
    have h9 := rclosed_any w p (.slice dvo p.done.length dvc) ⟨t, 11, a, b⟩ i rfl
    rw [show closedOf ⟨t, 11, a, b⟩ i p = (closed 3 i) p from by simp [closedOf, committed, closed]] at h9
    exact h9)
  clear gf
  go_wp2_with fail
  go_region_law (fail)
  all_goals (
    have hcE := ((Chg.refl (fun k => k = bs) w1).setCell (p := ⟨bs, 4 + t, none⟩) (.inl rfl) (.bool true)).drew
    have hsE : (w1.setCell ⟨bs, 4 + t, none⟩ (.bool true)).drew.heap[bs]? = some (.cells (encStand ⟨s.atts, s.opn, upd s.ended t true⟩).toArray 63 (0, 0)) := by
      rw [← encStand_set_ended s ht]; exact block_setCell (w := w1.drew) _ HT.out.st
    generalize (w1.setCell ⟨bs, 4 + t, none⟩ (.bool true)).drew = wE at hcE hsE ⊢
    have HCW := hidI hcE
    have HSW := hidI hsE
    have HEW := hidI (chgblk hcE HEB.out (by have := lt_of_block H.out.st; omega))
    have HGW := hidI (chgblk hcE HGC.out (fun e => hgbs e))
    have HRW := hidI (ownsRow_chg HT.out.row hcE (fun d hd e => by have := rowLt HT.out.row hd; have := HT.out.bb; omega))
    clear hcE hsE q0 q1 q2 q3 x0 x1 x2 x3 x4 x5 x6 x7 d0 e0 fb0 fb1
    have hxw := fun i => fun u (hu : (encP2 (p, .slice dvo p.done.length dvc))[i]? = some u) => cell_of_block HGW.out (HCUR.out _ _ (flat_at encP2_len ps HP.out i u hu))
    have x0 := hxw 0 _ rfl
    have x1 := hxw 1 _ rfl
    have x2 := hxw 2 _ rfl
    have x3 := hxw 3 _ rfl
    have x4 := hxw 4 _ rfl
    have x5 := hxw 5 _ rfl
    have x6 := hxw 6 _ rfl
    have x7 := hxw 7 _ rfl
    simp only [Nat.add_zero] at x0
    have d0 : True := trivial
    have e0 : True := trivial
    have fb0 : True := trivial
    have fb1 : True := trivial
    clear hxw
    have q0 := cell_of_block (o := 0) HEW.out rfl
    have q1 := cell_of_block (o := 1) HEW.out rfl
    have q2 := cell_of_block (o := 2) HEW.out rfl
    have q3 := cell_of_block (o := 3) HEW.out rfl
    simp only [List.getElem_toArray, List.getElem_cons_zero, List.getElem_cons_succ] at q0 q1 q2 q3
    go_wp2_with fail
    go_region_law (first | (go_simp; go_at_call 33; refine (HC.out _).mono ?_; rintro e4 w4 ⟨rfl, hb4⟩; have HB4 := hidI hb4; have hst := store_att (ownsRow_chg HRW.out ((Chg.refl (fun _ => False) wE).drew.trans (Chg.of_below hb4)) (fun _ _ => id)) hjl ((closed 3 i) p) (ao := dvo) (m := p.done.length) (c := dvc); have hl8 : (encAtt ((closed 3 i) p) (.slice dvo p.done.length dvc)).length = 8 := rfl; clear hb4; dsimp only))
    all_goals (
      clear hst x0 x1 x2 x3 x4 x5 x6 x7 q0 q1 q2 q3 d0 e0 fb0 fb1
      obtain ⟨W5, hW5⟩ : ∃ x, x = w4.setCells g (j * 8) (encAtt ((closed 3 i) p) (.slice dvo p.done.length dvc)) := ⟨_, rfl⟩
      rw [← hW5]
      have hc4 : Chg (fun _ => False) wE w4 := (Chg.refl (fun _ => False) wE).drew.trans (Chg.of_below HB4.out)
      have hc5 : Chg (fun k => k = g) wE W5 := by rw [hW5]; exact Chg.setCellsAttempt (S := fun k => k = g) rfl _ _ (Chg.then_ (T := fun _ => False) (Chg.refl _ wE) hc4 (fun _ _ q => q.elim))
      have hs5 := chgblk hc5 HSW.out (fun e => hgbs e.symm)
      have hE5 := chgblk hc5 HEW.out (by have := rowLt H.out.row (g := g) rfl; omega)
      have q0 := cell_of_block (o := 0) hE5 rfl
      have q1 := cell_of_block (o := 1) hE5 rfl
      have q2 := cell_of_block (o := 2) hE5 rfl
      have q3 := cell_of_block (o := 3) hE5 rfl
      simp only [List.getElem_toArray, List.getElem_cons_zero, List.getElem_cons_succ] at q0 q1 q2 q3
      have d0 : W5.cell? ⟨bs, t, none⟩ = some (.int .i64 (openI (s.opn t))) := cell_of_block hs5 (encStand_opn ⟨s.atts, s.opn, upd s.ended t true⟩ ht)
      have fb0 : W5.frozen? ⟨bs, t, none⟩ = false := free_of_block hs5
      have HC4 := hidI hc4
      have HW5 := hidI hW5
      clear hc4 hc5 hs5 hE5 hW5
      go_wp2_with fail
      go_region_law (fail)
      all_goals (
        go_wp2_with fail
        go_ret
        refine ⟨_, rfl, TakeR.pre HB1.out (TakeR.post (HT.out.close (s' := ⟨s.atts.modify j (closed 3 i), upd s.opn t none, upd s.ended t true⟩) (f := closed 3 i) (o := t) (u := .int .i64 (-1)) HP.out rfl (HCW.out.trans (Chg.then_ (T := fun _ => False) (Chg.refl _ wE) HC4.out (fun _ _ q => q.elim))) (chgblk HC4.out HSW.out id) (encStand_set_opn ⟨s.atts, s.opn, upd s.ended t true⟩ ht none (s.atts.modify j (closed 3 i))) rfl rfl) ?_)⟩
        rw [← HW5.out]
        exact (Below.refl _ _).drew))
  )
end Go.Proofs.Ytlphjkgjcfhihaa

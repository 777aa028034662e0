/- The document's buffer: a list in memory of its own. -/
import Derived.Test.YtilkpmjkiohfdaaGreatDoorBufB
import Derived.Test.YtilkpmjkiohfdaaGreatDoorBookR
import Derived.Test.YtilkpmjkiohfdaaGreatDoorMake
namespace Go.Proofs.YtilkpmjkiohfdaaGreatDoor
open Go.RowKit
set_option linter.unusedVariables false
set_option linter.unusedSimpArgs false

/-- the document's buffer lies in block wb: its stores are q, in a row of their own -/
structure RBuf (w : World) (base wb : Nat) (q : List (Int × Int)) (v : Value) : Prop where
  blk : w.heap[wb]? = some (.cells #[v] 71 (0, 0))
  own : w.ownsRow base 76 2 v q.length (q.flatMap encCell)
  ne : wb < base

/-- what a call that writes it leaves -/
def RPost (w w' : World) (base wb : Nat) (v : Value) (q : List (Int × Int)) : Prop :=
  ∃ v', RBuf w' base wb q v' ∧ Chg (fun k => k = wb ∨ v.ownBlock = some k) w w' ∧ ∀ g, v'.ownBlock = some g → v.ownBlock = some g ∨ w.heap.size ≤ g

theorem RBuf.below {w w' : World} {base wb : Nat} {q : List (Int × Int)} {v : Value} (h : RBuf w base wb q v) (hb : Below w.heap.size w w') : RBuf w' base wb q v :=
  ⟨_root_.Go.Proofs.YtilkpmjkiohfdaaGreatDoor.blk hb h.blk, ownsRow_chg h.own (Chg.of_below (S := fun _ => False) hb) (fun _ _ => id), h.ne⟩

set_option maxHeartbeats 400000 in
theorem rput_full {w : World} {base wb : Nat} {q : List (Int × Int)} {v : Value} (h : RBuf w base wb q v) (hq : q.length = 64) (a x : Int) :
    Calls Tryz.prog 18 #[.pointer (some ⟨wb, 0, none⟩), .int .i64 a, .int .i64 x] w fun e w' => e = .returned (.bool false) ∧ w' = w := by
  obtain ⟨ao, c, rfl⟩ := ownsRow_shape h.own
  have c1 := cell_of_block (o := 0) h.blk rfl
  rw [hq] at c1
  clear h hq
  go_enter Tryz.func18, Tryz.ntmps18
  go_wp2_with fail
  go_ret
  exact ⟨rfl, rfl⟩

theorem RBuf.app {w w3 : World} {base wb : Nat} {q : List (Int × Int)} {v v' : Value} {x : Int × Int} {o : Obj} (h : RBuf w base wb q v) (ho : w3.ownsRow base 76 2 v' (q.length + 1) (q.flatMap encCell ++ encCell x))
    (hf : ∀ g, v'.ownBlock = some g → v.ownBlock = some g ∨ w.heap.size + 1 ≤ g) (hg : (w.alloc o).grownBy w3 v.ownBlock) :
    w3.heap[wb]? = some (.cells #[v] 71 (0, 0)) ∧ RPost w (w3.setCell ⟨wb, 0, none⟩ v') base wb v (q ++ [x]) := by
  have hlt := lt_of_block h.blk
  have hne := h.ne
  have e1 : w3.heap[wb]? = some (.cells #[v] 71 (0, 0)) := by
    rw [hg.block wb (by rw [World.size_alloc]; omega) (fun e => by have := rowLt h.own e.symm; omega)]
    exact block_alloc h.blk
  have hne2 : ∀ g, v'.ownBlock = some g → g ≠ wb := fun g hg2 e => by have := (rowLt ho hg2).1; omega
  refine ⟨e1, v', ⟨block_setCell v' e1, ?_, hne⟩, ?_, fun g hg2 => (hf g hg2).imp id (fun q => by omega)⟩
  · rw [flat_snoc, List.length_append]
    exact ownRow_keep ho fun g hg2 _ => Below.heap_setCell _ _ _ _ (hne2 g hg2)
  · exact ((((Chg.refl _ w).alloc o).grown hg (fun k hk => .inl (.inr hk)))).setCell (p := ⟨wb, 0, none⟩) (.inl (.inl rfl)) _

set_option maxRecDepth 100000 in
set_option maxHeartbeats 1000000 in
theorem rput_any {w : World} {base wb : Nat} {q : List (Int × Int)} {v : Value} (h : RBuf w base wb q v) (hq : q.length < 64) (hbase : base ≤ w.heap.size) (a x : Int) :
    Calls Tryz.prog 18 #[.pointer (some ⟨wb, 0, none⟩), .int .i64 a, .int .i64 x] w fun e w' => e = .returned (.bool true) ∧ RPost w w' base wb v (q ++ [(a, x)]) := by
  obtain ⟨ao, c, rfl⟩ := ownsRow_shape h.own
  obtain ⟨i0, hi, hz0, hz1, hz2⟩ := info_parts Tryz.info76
  have c1 : ∀ o, (w.alloc o).cell? ⟨wb, 0, none⟩ = some (.slice ao q.length c) := fun o => cell_of_block (block_alloc h.blk) rfl
  have c0 : w.cell? ⟨wb, 0, none⟩ = some (.slice ao q.length c) := cell_of_block h.blk rfl
  have hlt := lt_of_block h.blk
  have H := hidI h
  have HB := hidI hbase
  clear h hbase
  go_enter Tryz.func18, Tryz.ntmps18
  go_wp2_with (at_builtin; refine wpList_append_d _ rfl _ _ 69 rfl base 76 i0 _ 2 16 Tryz.underlying69 hi hz0 hz1 hz2 rfl (by decide) _ _ _ rfl (ownsRow_chg H.out.own ((Chg.refl (fun _ => False) w).alloc _) (fun _ _ => id)) ⟨w.heap.size, 0, none⟩ 1 1 (encCell (a, x)) rfl rfl ?c1 ?c2 ?c3 ?c4 ?c5 ?_)
  case c1 => exact news_at (block_new _ _)
  case c2 => intro u hu; simp [encCell] at hu; rcases hu with rfl | rfl <;> rfl
  case c3 => unfold maxLen; omega
  case c4 => omega
  case c5 => have := HB.out; simp; omega
  intro ao2 c2 w3 hown hfrom hgrown
  have HP := hidI (H.out.app (x := (a, x)) hown hfrom hgrown)
  have d1 : w3.cell? ⟨wb, 0, none⟩ = some (.slice ao q.length c) := cell_of_block HP.out.1 rfl
  have d2 : w3.frozen? ⟨wb, 0, none⟩ = false := free_of_block HP.out.1
  clear hown hfrom hgrown c1 c0
  go_wp2_with fail
  go_ret
  exact ⟨rfl, HP.out.2⟩

set_option maxHeartbeats 400000 in
theorem rtake_none {w : World} {base wb : Nat} {v : Value} (h : RBuf w base wb [] v) :
    Calls Tryz.prog 20 #[.pointer (some ⟨wb, 0, none⟩)] w (TakeNone w) := by
  obtain ⟨ao, c, rfl⟩ := ownsRow_shape h.own
  have c1 : ∀ o, (w.alloc o).cell? ⟨wb, 0, none⟩ = some (.slice ao 0 c) := fun o => cell_of_block (block_alloc h.blk) rfl
  clear h
  go_enter Tryz.func20, Tryz.ntmps20
  go_wp2_with fail
  refine bodyPost_ret (v := .tuple #[.agg #[.int .i64 0, .int .i64 0], .bool false]) (by simp [results, Tryz.results20, go_sem]) rfl ⟨rfl, (Below.refl _ _).alloc (Nat.le_refl _) _⟩

set_option maxRecDepth 100000 in
set_option maxHeartbeats 1000000 in
theorem rtake_some {w : World} {base wb : Nat} {x : Int × Int} {q : List (Int × Int)} {v : Value} (h : RBuf w base wb (x :: q) v) (hq : q.length ≤ 64) (hbase : base ≤ w.heap.size) :
    Calls Tryz.prog 20 #[.pointer (some ⟨wb, 0, none⟩)] w fun e w' => e = .returned (.tuple #[.agg #[.int .i64 x.1, .int .i64 x.2], .bool true]) ∧ RPost w w' base wb v q := by
  obtain ⟨ao, c, rfl⟩ := ownsRow_shape h.own
  obtain ⟨i0, hi, hz0, hz1, hz2⟩ := info_parts Tryz.info76
  have c1 : ∀ o, (w.alloc o).cell? ⟨wb, 0, none⟩ = some (.slice ao (q.length + 1) c) := fun o => cell_of_block (block_alloc h.blk) rfl
  have hown := h.own
  simp only [List.length_cons] at hown
  obtain ⟨g, cur, rfl, _, hgb, _, hcur⟩ := ownsRow_some hown (by omega)
  have x0 : ∀ o, (w.alloc o).cell? ⟨g, 0, none⟩ = some (.int .i64 x.1) := fun o => cell_of_block (block_alloc hgb) (hcur 0 _ rfl)
  have x1 : ∀ o, (w.alloc o).cell? ⟨g, 1, none⟩ = some (.int .i64 x.2) := fun o => cell_of_block (block_alloc hgb) (hcur 1 _ rfl)
  have tq : (((q.length : Int) + 1) == 0) = false := by rw [beq_eq_false_iff_ne]; omega
  have H := hidI h
  have HB := hidI hbase
  have HG := hidI hgb
  have HCUR := hidI hcur
  clear h hbase hown hgb hcur
  go_enter Tryz.func20, Tryz.ntmps20
  go_wp2_with fail
  have HW0 := hidI (((Below.refl w.heap.size w).alloc (Nat.le_refl _) (.cells #[.int .i64 0, .int .i64 0] 76)).alloc (by simp) (.cells #[.int .i64 x.1, .int .i64 x.2] 76))
  have HR0 := hidI (block_alloc (o := .cells #[.int .i64 x.1, .int .i64 x.2] 76) (block_new w (.cells #[.int .i64 0, .int .i64 0] 76)))
  have HC0 := hidI (block_new2 w (.cells #[.int .i64 0, .int .i64 0] 76) (.cells #[.int .i64 x.1, .int .i64 x.2] 76))
  clear c1 x0 x1
  go_loopw [6, 5] (fun i v wr => ∃ (k : Nat) (ao2 : Option Addr) (c2 : Nat), k ≤ q.length ∧ i = .int .i64 ((k + 1 : Nat) : Int) ∧ v = .slice ao2 k c2 ∧ Hid (wr.ownsRow (w.heap.size + 1 + 1) 76 2 (.slice ao2 k c2) k ((q.take k).flatMap encCell)) ∧ Hid (Below w.heap.size w wr) ∧
    Hid (wr.heap[w.heap.size]? = some (.cells #[.int .i64 0, .int .i64 0] 76 (0, 0))) ∧ Hid (wr.heap[w.heap.size + 1]? = some (.cells #[.int .i64 x.1, .int .i64 x.2] 76 (0, 0)))) (fun i _ _ => q.length + 1 - (intOf i).toNat)
  case atStart => exact ⟨0, none, 0, by omega, rfl, rfl, hidI (World.ownsRow_nil _ _ _ _), HW0, HR0, HC0⟩
  case round =>
    obtain ⟨k, ao2, c2, hk, rfl, rfl, HO, HW, HR, HC⟩ := hrel
    have d1 : wr.cell? ⟨wb, 0, none⟩ = some (.slice (some ⟨g, 0, none⟩) (q.length + 1) c) := cell_of_block (blk HW.out H.out.blk) rfl
    have hsz : w.heap.size + 1 < wr.heap.size := lt_of_block HC.out
    by_cases hlt : k < q.length
    · obtain ⟨y, hy⟩ := some_at hlt
      obtain ⟨b1, o1, e9, hs1, hc1⟩ := RdT.at encCell_len (Rd.of_own H.out.own) (k := k + 1) (by simpa using hy)
      simp only [Option.some.injEq, Addr.mk.injEq, and_true] at e9
      obtain ⟨rfl, rfl⟩ := e9
      have x0 := cell_later HW.out (hc1 0 _ rfl)
      have x1 := cell_later HW.out (hc1 1 _ rfl)
      simp only [Nat.add_zero, Nat.zero_add] at x0 x1
      have HX := hidI hy
      clear hy hc1 hs1
      go_wp2_with (at_builtin; refine wpList_append_d _ rfl _ _ 69 rfl (w.heap.size + 1 + 1) 76 i0 _ 2 16 Tryz.underlying69 hi hz0 hz1 hz2 rfl (by decide) _ _ _ rfl (ownsRow_chg HO.out ((Chg.refl (fun _ => False) wr).alloc _) (fun _ _ => id)) ⟨wr.heap.size, 0, none⟩ 1 1 (encCell y) rfl rfl ?c1 ?c2 ?c3 ?c4 ?c5 ?_)
      case c1 => exact news_at (block_new _ _)
      case c2 => intro u hu; simp [encCell] at hu; rcases hu with rfl | rfl <;> rfl
      case c3 => unfold maxLen; omega
      case c4 => omega
      case c5 => simp; omega
      intro ao3 c3 w3 hown hfrom hgrown
      have hc3 := Chg.grown (S := fun j => (Value.slice ao2 k c2).ownBlock = some j) ((Chg.refl _ wr).alloc _) hgrown (fun j hj => .inl hj)
      have HB3 := hidI (hc3.below HW.out HW.out.size (fun j hj => by have := (rowLt HO.out hj).1; omega))
      have HR3 := hidI (chgblk hc3 HR.out (fun e => by have := (rowLt HO.out e).1; omega))
      have HC3 := hidI (chgblk hc3 HC.out (fun e => by have := (rowLt HO.out e).1; omega))
      have HO3 := hidI hown
      clear hown hfrom hgrown hc3
      go_wp2_with fail
      refine ⟨⟨k + 1, ao3, c3, by omega, by go_num, rfl, ?_, HB3, HR3, HC3⟩, by simp [intOf]; omega⟩
      rw [take_snoc HX.out, flat_snoc]
      exact HO3
    · obtain rfl : k = q.length := by omega
      have d2 : wr.frozen? ⟨wb, 0, none⟩ = false := free_of_block (blk HW.out H.out.blk)
      have r0 := cell_of_block (o := 0) HR.out rfl
      have r1 := cell_of_block (o := 1) HR.out rfl
      have r2 := free_of_block (o := 0) HR.out
      have r3 := free_of_block (o := 1) HR.out
      have k0 := cell_of_block (o := 0) HC.out rfl
      have k1 := cell_of_block (o := 1) HC.out rfl
      simp only [List.getElem_toArray, List.getElem_cons_zero, List.getElem_cons_succ] at r0 r1 k0 k1
      have hwb := H.out.ne
      have hbase := HB.out
      have hwl := lt_of_block H.out.blk
      go_wp2_with fail
      have hne1 : ¬ wb = w.heap.size := by omega
      have hR := block_setCell (o := 1) (.int .i64 x.2) (block_setCell (o := 0) (.int .i64 x.1) (block_other (a := ⟨wb, 0, none⟩) (u := .slice ao2 q.length c2) HR.out (fun e => hne1 e.symm)))
      refine bodyPost_ret (v := .tuple #[.agg #[.int .i64 x.1, .int .i64 x.2], .bool true]) ?_ rfl ?_
      · have r0 := cell_of_block (o := 0) hR rfl
        have r1 := cell_of_block (o := 1) hR rfl
        simp [results, Tryz.results20, go_sem, r0, r1]
      · have hHO := HO.out
        rw [List.take_length] at hHO
        refine ⟨rfl, .slice ao2 q.length c2, ⟨block_other (block_other (block_setCell (o := 0) _ (blk HW.out H.out.blk)) hne1) hne1, ?_, H.out.ne⟩, ?_, fun g2 hg2 => .inr (by have := (rowLt hHO hg2).1; omega)⟩
        · refine ownsRow_mono (ownRow_keep hHO fun g2 hg2 _ => ?_) (by omega)
          have := (rowLt hHO hg2).1
          rw [Below.heap_setCell _ _ _ _ (by simp; omega), Below.heap_setCell _ _ _ _ (by simp; omega), Below.heap_setCell _ _ _ _ (by simp; omega)]
        · exact (((Chg.of_below HW.out).setCell (p := ⟨wb, 0, none⟩) (.inl (.inl rfl)) _).setCell (.inr (Nat.le_refl _)) _).setCell (.inr (Nat.le_refl _)) _

set_option maxRecDepth 100000 in
set_option maxHeartbeats 1000000 in
theorem rfind_any {w : World} {base wb : Nat} {q : List (Int × Int)} {v : Value} (h : RBuf w base wb q v) (hq : q.length ≤ 64) (a : Int) :
    Calls Tryz.prog 22 #[.pointer (some ⟨wb, 0, none⟩), .int .i64 a] w (FindPost q a w) := by
  obtain ⟨ao, c, rfl⟩ := ownsRow_shape h.own
  have c1 := cell_of_block (o := 0) h.blk rfl
  have H := hidI h
  clear h
  go_enter Tryz.func22, Tryz.ntmps22
  go_wp2_with fail
  go_loopw [6] (fun i wr => ∃ k : Nat, k ≤ q.length ∧ i = .int .i64 ((k : Int) - 1) ∧ (∃ n, wr = w.drewN n) ∧ ∀ j y, k ≤ j → q[j]? = some y → y.1 ≠ a) (fun i _ => (intOf i + 1).toNat)
  case atStart => exact ⟨q.length, Nat.le_refl _, rfl, ⟨0, rfl⟩, fun j y hj hy => by have := (List.getElem?_eq_some_iff.1 hy).1; omega⟩
  case round =>
    obtain ⟨k, hk, rfl, ⟨n, rfl⟩, hall⟩ := hrel
    have HA := hidI hall
    clear hall
    by_cases h0 : k = 0
    · subst h0
      go_wp2
      go_ret2
      refine ⟨?_, n, rfl⟩
      unfold findV
      rw [findS_none (fun i x hx => HA.out i x (by omega) hx)]
      rfl
    · obtain ⟨m, rfl⟩ : ∃ m, k = m + 1 := ⟨k - 1, by omega⟩
      obtain ⟨x, hx⟩ := some_at (l := q) (k := m) (by omega)
      obtain ⟨b1, o1, rfl, hs1, hc1⟩ := RdT.at encCell_len (Rd.of_own H.out.own) hx
      have x0 := hc1 0 _ rfl
      have x1 := hc1 1 _ rfl
      simp only [Nat.add_zero] at x0
      have HX := hidI hx
      have e1 : (((m + 1 : Nat) : Int) - 1) = m := by omega
      rw [e1]
      clear hx hc1 hs1 e1 h0
      by_cases ha : x.1 = a
      · have ta : ((x.1 : Int) == a) = true := by rw [ha]; simp
        go_wp2
        go_ret2
        refine ⟨?_, n, rfl⟩
        unfold findV
        rw [findS_some HX.out ha (fun i y hi hy => HA.out i y (by omega) hy)]
        rfl
      · have ta : ((x.1 : Int) == a) = false := by rw [beq_eq_false_iff_ne]; exact ha
        go_wp2
        refine ⟨⟨m, by omega, rfl, ⟨n, rfl⟩, fun j y hj hy => ?_⟩, by simp [intOf]⟩
        rcases Nat.lt_or_ge m j with h | h
        · exact HA.out j y h hy
        · obtain rfl : j = m := by omega
          have := HX.out
          rw [hy] at this
          simp only [Option.some.injEq] at this
          subst this
          exact ha

/-- All's post: a list of its own -/
def RAllPost (q : List (Int × Int)) (w : World) (e : Ending) (w' : World) : Prop :=
  ∃ ao c, e = .returned (.slice ao q.length c) ∧ w'.ownsRow w.heap.size 76 2 (.slice ao q.length c) q.length (q.flatMap encCell) ∧ Below w.heap.size w w'

set_option maxRecDepth 100000 in
set_option maxHeartbeats 1000000 in
theorem rall_any {w : World} {base wb : Nat} {q : List (Int × Int)} {v : Value} (h : RBuf w base wb q v) (hq : q.length ≤ 64) :
    Calls Tryz.prog 25 #[.pointer (some ⟨wb, 0, none⟩)] w (RAllPost q w) := by
  obtain ⟨ao, c, rfl⟩ := ownsRow_shape h.own
  obtain ⟨i0, hi, hz0, hz1, hz2⟩ := info_parts Tryz.info76
  have c1 := cell_of_block (o := 0) h.blk rfl
  have H := hidI h
  clear h
  go_enter Tryz.func25, Tryz.ntmps25
  go_wp2_with fail
  go_loopw [4, 3] (fun i v wr => ∃ (k : Nat) (ao2 : Option Addr) (c2 : Nat), k ≤ q.length ∧ i = .int .i64 (k : Int) ∧ v = .slice ao2 k c2 ∧ Hid (wr.ownsRow w.heap.size 76 2 (.slice ao2 k c2) k ((q.take k).flatMap encCell)) ∧ Hid (Below w.heap.size w wr)) (fun i _ _ => q.length - (intOf i).toNat)
  case atStart => exact ⟨0, none, 0, by omega, rfl, rfl, hidI (World.ownsRow_nil _ _ _ _), hidI (Below.refl _ _)⟩
  case round =>
    obtain ⟨k, ao2, c2, hk, rfl, rfl, HO, HW⟩ := hrel
    have d1 : wr.cell? ⟨wb, 0, none⟩ = some (.slice ao q.length c) := cell_of_block (blk HW.out H.out.blk) rfl
    by_cases hlt : k < q.length
    · obtain ⟨x, hx⟩ := some_at hlt
      obtain ⟨b1, o1, rfl, hs1, hc1⟩ := RdT.at encCell_len (Rd.of_own H.out.own) hx
      have x0 := cell_later HW.out (hc1 0 _ rfl)
      have x1 := cell_later HW.out (hc1 1 _ rfl)
      simp only [Nat.add_zero] at x0
      have HX := hidI hx
      clear hx hc1 hs1 c1
      go_wp2_with (at_builtin; refine wpList_append_d _ rfl _ _ 69 rfl (w.heap.size) 76 i0 _ 2 16 Tryz.underlying69 hi hz0 hz1 hz2 rfl (by decide) _ _ _ rfl (ownsRow_chg HO.out ((Chg.refl (fun _ => False) wr).alloc _) (fun _ _ => id)) ⟨wr.heap.size, 0, none⟩ 1 1 (encCell x) rfl rfl ?c1 ?c2 ?c3 ?c4 ?c5 ?_)
      case c1 => exact news_at (block_new _ _)
      case c2 => intro u hu; simp [encCell] at hu; rcases hu with rfl | rfl <;> rfl
      case c3 => unfold maxLen; omega
      case c4 => omega
      case c5 => have := HW.out.size; simp; omega
      intro ao3 c3 w3 hown hfrom hgrown
      have HB3 := hidI ((Chg.grown (S := fun j => (Value.slice ao2 k c2).ownBlock = some j) ((Chg.refl _ wr).alloc _) hgrown (fun j hj => .inl hj)).below HW.out HW.out.size (fun j hj => (rowLt HO.out hj).1))
      have HO3 := hidI hown
      clear hown hfrom hgrown
      go_wp2_with fail
      refine ⟨⟨k + 1, ao3, c3, by omega, by go_num, rfl, ?_, HB3⟩, by simp [intOf]; omega⟩
      rw [take_snoc HX.out, flat_snoc]
      exact HO3
    · obtain rfl : k = q.length := by omega
      go_wp2_with fail
      go_ret
      exact ⟨ao2, c2, rfl, by have := HO.out; rwa [List.take_length] at this, HW.out⟩

end Go.Proofs.YtilkpmjkiohfdaaGreatDoor

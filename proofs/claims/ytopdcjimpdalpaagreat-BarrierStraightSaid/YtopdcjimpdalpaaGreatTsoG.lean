/- Package tso: Step. -/
import Derived.Test.YtopdcjimpdalpaaGreatTsoF
import Derived.Defers
import Derived.Recover
namespace Go.Proofs.YtopdcjimpdalpaaGreat
open Go.RowKit
set_option linter.unusedVariables false
set_option linter.unusedSimpArgs false

variable {w w' : World} {base b : Nat} {own own' : Nat → Nat} {mm : MM} {xs : List TX} {mv tv ev : Value}

/-- a call that changes nothing of the machine -/
theorem MGoes.same (h : MAt w base b own mm xs mv tv ev) (hb : Below w.heap.size w w') : MGoes w base b own mm w' := ⟨⟨own, xs, mv, tv, ev, h.below hb, fun _ _ => rfl⟩, Chg.of_below hb⟩

set_option maxHeartbeats 1000000 in
theorem step_none (h : MAt w base b own mm xs mv tv ev) {z : Int} (hz : z < 0 ∨ xs.length ≤ z) :
    Calls Tryz.prog 63 #[.pointer (some ⟨b, 0, none⟩), .int .i64 z] w fun r w' => r = .returned (.bool false) ∧ Below w.heap.size w w' := by
  have H := hidI h
  have HB := hidI ((((Below.refl w.heap.size w).alloc (Nat.le_refl _) (.cells #[.pointer (some ⟨b, 0, none⟩)] 144)).alloc (by simp) (.cells #[.bool false] 4)))
  clear h
  go_enter_defers Tryz.func63, Tryz.ntmps63
  go_wp2_with fail
  refine (of_no (H.out.below HB.out) hz).mono ?_
  rintro e w1 ⟨rfl, rfl⟩
  go_wp2_with fail
  refine ⟨.bool false, ?_, rfl, HB.out.alloc (by simp; omega) _⟩
  simp [results, Tryz.results63, go_sem]

theorem wp_hid {P : Program} {c : Code} {Q : Exit → Act → World → Prop} {a : Act} {w : World} (h : ∀ Q', Q' = Q → c.wp P Q' a w) : c.wp P Q a w := h Q rfl

set_option maxRecDepth 100000 in
set_option maxHeartbeats 2000000 in
/-- Step$1, called as a thread ends -/
theorem catch_ends {tb cap n : Nat} {x : TX} (h : MAt w base b own mm xs mv (.slice (some ⟨tb, 0, none⟩) xs.length cap) ev) (hx : xs[n]? = some x) (hev : mm.evs.length < 1000000000) (h4 : xs.length ≤ 4) {pt pd pm : Nat} {v : Bool} (k : Int) (hk : 1 ≤ k ∧ k < 256)
    (ct : w.cell? ⟨pt, 0, none⟩ = some (.pointer (some ⟨tb, n * 13, none⟩))) (cd : w.cell? ⟨pd, 0, none⟩ = some (.bool v)) (fd : w.frozen? ⟨pd, 0, none⟩ = false) (cm : w.cell? ⟨pm, 0, none⟩ = some (.pointer (some ⟨b, 0, none⟩))) (ht : own pt = 0) (hd : own pd = 0) (hm : own pm = 0) (hdt : pd ≠ pt) (hdm : pd ≠ pm) :
    CallsD Tryz.prog 101 #[.pointer (some ⟨pt, 0, none⟩), .pointer (some ⟨pd, 0, none⟩), .pointer (some ⟨pm, 0, none⟩)] (.panicking [tfault k]) w fun e u' w' =>
      e = .returned (.tuple #[]) ∧ u' = .panicking [{ tfault k with recovered := true }] ∧ w'.cell? ⟨pd, 0, none⟩ = some (.bool true) ∧ (∃ own' ev', MAt w' base b own' (mm.stop n x.th k) (xs.set n { x with th := { x.th with fin := k } }) mv (.slice (some ⟨tb, 0, none⟩) (xs.set n { x with th := { x.th with fin := k } }).length cap) ev' ∧ ∀ k, k < w.heap.size → own' k = own k) ∧
      Chg (fun k => k = pd ∨ own k ≠ 0 ∧ ¬ (5 ≤ own k ∧ own k % 3 = 2)) w w' := by
  refine callsD_of_wpS Tryz.func101 rfl fun c₀ cs hu => ?_
  simp only [Tryz.ntmps101, List.size_toArray, List.length_cons, List.length_nil, Nat.reduceAdd, Nat.reduceSub, Array.replicate_succ,
     Array.replicate_zero, List.push_toArray, List.append_toArray, List.nil_append, List.cons_append]
  apply wpS_seq
  apply wpS_region
  simp [wpOpsS, go_sem, recoverD, hu, Tryz.ntmps101, Exit.thenS, tfault]
  refine wpS_of_wp (wp_hid fun Q' hQ => ?_)
  have HQ := hidI hQ
  clear hQ
  have hn : n < xs.length := (List.getElem?_eq_some_iff.1 hx).1
  have f12 := h.free (tb := tb) (by omega) (n * 13 + 12)
  have e12 := h.cell hx 12 _ rfl
  have H := hidI h
  have HX := hidI hx
  have HE := hidI hev
  have H4 := hidI h4
  clear h hx hev h4 hu
  have hq : ∀ w, Sem.run Tryz.prog (binOp .neq 20 (.iface 188 (.int .u8 k)) .nilIface) w = .ok (.bool true) w := by
    intro w
    simp [go_sem]
  have hta : ∀ w, Sem.run Tryz.prog (Instr.typeAssert (.iface 188 (.int .u8 k)) 20 188 true) w = .ok (.tuple #[.int .u8 k, .bool true]) w := by
    intro w
    simp [Instr.typeAssert, run_underlying Tryz.underlying188, go_sem]
  have hpl : pd < ((w.setCell ⟨tb, n * 13 + 12, none⟩ (.int .u8 k)).setCell ⟨pd, 0, none⟩ (.bool true)).heap.size := by rw [heapSize_setCell, heapSize_setCell]; exact World.block_lt_of_cell? w _ cd
  have htb : pd ≠ tb := fun e => by rw [e, H.out.thsT tb rfl] at hd; cases hd
  have cd' : (w.setCell ⟨tb, n * 13 + 12, none⟩ (.int .u8 k)).cell? ⟨pd, 0, none⟩ = some (.bool v) := by rw [World.cell?_of_block (w := w) (Below.heap_setCell _ _ _ _ htb)]; exact cd
  have hm1 := (H.out.poke HX.out { x with th := { x.th with fin := k } } 12 (.int .u8 k) (by omega) rfl rfl rfl rfl rfl rfl rfl).keep (w' := (w.setCell ⟨tb, n * 13 + 12, none⟩ (.int .u8 k)).setCell ⟨pd, 0, none⟩ (.bool true)) (by rw [heapSize_setCell, heapSize_setCell, heapSize_setCell]; exact Nat.le_refl _) (fun g hg _ => Below.heap_setCell _ _ _ _ (fun e => hg (by rw [e]; exact hd)))
  have HM := hidI hm1
  have HT := hidI hd
  have HC1 := hidI (show Chg (fun k => k = pd ∨ own k ≠ 0 ∧ ¬ (5 ≤ own k ∧ own k % 3 = 2)) w ((w.setCell ⟨tb, n * 13 + 12, none⟩ (.int .u8 k)).setCell ⟨pd, 0, none⟩ (.bool true)) from
    ((Chg.refl _ w).setCell (p := ⟨tb, n * 13 + 12, none⟩) (.inl (.inr (by show own tb ≠ 0 ∧ ¬ (5 ≤ own tb ∧ own tb % 3 = 2); rw [H.out.thsT tb rfl]; decide))) _).setCell (p := ⟨pd, 0, none⟩) (.inl (.inl rfl)) _)
  clear hm1 hd ht hm
  go_wp2_with fail
  · have HK := hidI (show k = 1 by simp_all)
    refine (event_any HM.out (set_at HX.out _) HE.out (by rw [List.length_set]; exact H4.out) 10 0 0).mono ?_
    rintro e w3 ⟨rfl, ⟨own2, ev2, hm2, ho2⟩, hc2⟩
    have HD := hidI (show w3.cell? ⟨pd, 0, none⟩ = some (.bool true) from (World.cell?_of_block (hc2.block pd hpl (by rw [HT.out]; omega))).trans (World.cell?_setCell_same _ _ _ cd'))
    have H2 := hidI hm2
    have HO := hidI (show ∀ k, k < w.heap.size → own2 k = own k from fun k hk => ho2 k (by rw [heapSize_setCell, heapSize_setCell]; exact hk))
    have HC := hidI (Chg.then_ (S := fun k => k = pd ∨ own k ≠ 0 ∧ ¬ (5 ≤ own k ∧ own k % 3 = 2)) HC1.out hc2 (fun k _ e => .inr (by rcases e with e | e <;> rw [e] <;> decide)))
    clear hm2 ho2 hc2 cd'
    go_wp2_with fail
    rw [HQ.out]
    refine ⟨rfl, _, rfl, _, results_none rfl _ _ _, rfl, rfl, HD.out, ⟨own2, ⟨ev2, ?_⟩, HO.out⟩, by simpa using HC.out⟩
    have := H2.out
    simpa [MM.stop, HK.out] using this
  · have HK := hidI (show ¬ k = 1 by simp_all)
    refine (event_any HM.out (set_at HX.out _) HE.out (by rw [List.length_set]; exact H4.out) 11 k 0).mono ?_
    rintro e w3 ⟨rfl, ⟨own2, ev2, hm2, ho2⟩, hc2⟩
    have HD := hidI (show w3.cell? ⟨pd, 0, none⟩ = some (.bool true) from (World.cell?_of_block (hc2.block pd hpl (by rw [HT.out]; omega))).trans (World.cell?_setCell_same _ _ _ cd'))
    have H2 := hidI hm2
    have HO := hidI (show ∀ k, k < w.heap.size → own2 k = own k from fun k hk => ho2 k (by rw [heapSize_setCell, heapSize_setCell]; exact hk))
    have HC := hidI (Chg.then_ (S := fun k => k = pd ∨ own k ≠ 0 ∧ ¬ (5 ≤ own k ∧ own k % 3 = 2)) HC1.out hc2 (fun k _ e => .inr (by rcases e with e | e <;> rw [e] <;> decide)))
    clear hm2 ho2 hc2 cd'
    go_wp2_with fail
    rw [HQ.out]
    refine ⟨rfl, _, rfl, _, results_none rfl _ _ _, rfl, rfl, HD.out, ⟨own2, ⟨ev2, ?_⟩, HO.out⟩, by simpa using HC.out⟩
    have := H2.out
    simpa [MM.stop, HK.out] using this
end Go.Proofs.YtopdcjimpdalpaaGreat

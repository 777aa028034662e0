/- The document's Run: abort, begin. -/
import Derived.Test.YtilkpmjkiohfdaaGreatDoorTrC
namespace Go.Proofs.YtilkpmjkiohfdaaGreatDoor
open Go.RowKit
set_option linter.unusedVariables false
set_option linter.unusedSimpArgs false

variable {w w' : World} {base b m t : Nat} {tw : TW} {ts : List RX} {ev : Value}

/-- what a call leaves: the world that the fold has -/
def RtDone (base b m t : Nat) (tw : TW) (w : World) (r : Ending) (w' : World) : Prop := r = .returned (.tuple #[]) ∧ (∃ ts ev, RtAt w' base b m t tw ts ev) ∧ Below base w w'

def zeroRh : Array Value := (encRh noRh).toArray
theorem zero_rh (w : World) : (zeroValue 360).run Tryz.prog w = .ok (.agg zeroRh) w := by kernel_rfl
theorem zeroRh_size : zeroRh.size = 53 := by kernel_rfl

/-- a whole thread is stored -/
theorem store_rh (h : RtAt w base b m t tw ts ev) {n : Nat} {x : RX} (hx : ts[n]? = some x) (y : RX) (hy : y.dv.oneCell' = true) {cs : Array Value} (hcs : cs = (encRh y).toArray) :
    Sem.run Tryz.prog (storeCells ⟨t, n * 53, none⟩ cs.toList) w = .ok () (w.setCells t (n * 53) (encRh y)) := by
  subst hcs
  have q1 := h.there hx
  have := run_storeCells_cells (P := Tryz.prog) t (n * 53) (encRh y) 0 w (fun j hj => (q1 j (by simpa [encRh_len] using hj)).1) (fun j hj => (q1 j (by simpa [encRh_len] using hj)).2)
    (fun v hv => (Array.all_eq_true_iff_forall_mem.1 (encRh_one y hy)) v (by simpa using hv))
  simpa using this

set_option maxRecDepth 100000 in
set_option maxHeartbeats 2000000 in
theorem rabort_any (h : RtAt w base b m t tw ts ev) {n : Nat} {x : RX} (hx : ts[n]? = some x) (hlen : tw.evs.length < 70000) :
    Calls Tryz.prog 217 #[.pointer (some ⟨b, 0, none⟩), .int .i64 (n : Int)] w (RtDone base b m t (tw.abort n x.th) w) := by
  have hz1 := zero_rh
  have hz2 := zeroRh_size
  have hn : n < ts.length := (List.getElem?_eq_some_iff.1 hx).1
  have H := hidI h
  have HX := hidI hx
  have HL := hidI hlen
  clear h hx hlen
  go_enter Tryz.func217, Tryz.ntmps217
  go_wp2_with fail
  refine (rfree_any H.out HX.out).mono ?_
  rintro e w1 ⟨rfl, h1, hc1⟩
  have H1 := hidI h1
  have HC1 := hidI hc1
  clear h1 hc1
  go_wp2_with fail
  refine (rtell_any H1.out HL.out ⟨n, 8, 0, 0⟩).mono ?_
  rintro e w2 ⟨rfl, ⟨ev', h2⟩, hc2⟩
  have c2 := h2.wcell 18 _ rfl
  have hst := store_rh h2 HX.out noRh rfl (cs := zeroRh) rfl
  have H2 := hidI h2
  have HC2 := hidI hc2
  clear h2 hc2
  go_wp2_with fail
  have hw2 := H2.out.setTh HX.out noRh
  go_end0
  refine ⟨rfl, ⟨ts.set n noRh, ev', H2.out.thread HX.out noRh (Chg.setCells (.inl rfl) _ _ (Chg.refl _ w2)) hw2 (noRh_log _ _) (fun g hg => by cases hg)⟩, ?_⟩
  refine Chg.below (S := fun k => k = t) ?_ H2.out.base_le (Chg.setCells (S := fun k => k = t) rfl _ _ (Chg.refl _ w2)) (fun k hk => by rw [hk]; exact H2.out.lt)
  refine Chg.below ?_ H1.out.base_le HC2.out H1.out.ev_base
  exact Chg.below (Below.refl _ _) H.out.base_le HC1.out (fun k hk => by rw [hk]; exact H.out.lb)

set_option maxRecDepth 100000 in
set_option maxHeartbeats 2000000 in
theorem rbegin_any (h : RtAt w base b m t tw ts ev) {n : Nat} {x : RX} (hx : ts[n]? = some x) (hlen : tw.evs.length < 70000) :
    Calls Tryz.prog 213 #[.pointer (some ⟨b, 0, none⟩), .int .i64 (n : Int)] w (RtDone base b m t (tw.begin n) w) := by
  have c1 := h.wcell 18 _ rfl
  have c2 := h.wcell 1 _ rfl
  have hz1 := zero_rh
  have hz2 := zeroRh_size
  have hn : n < ts.length := (List.getElem?_eq_some_iff.1 hx).1
  have hz3 : (zeroRh = #[]) = False := by
    rw [eq_iff_iff, iff_false]
    intro e
    rw [e] at hz2
    exact absurd hz2 (by decide)
  obtain ⟨cs, hcs⟩ : ∃ cs : Array Value, (zeroRh.setIfInBounds 0 (Value.int IntKind.i64 1)).setIfInBounds 1 (Value.int IntKind.i64 tw.clock) = cs := ⟨_, rfl⟩
  have hst := store_rh h.drew hx (begRh tw) rfl (cs := cs) (by rw [← hcs]; rfl)
  have hcn : cs.size = 53 := by rw [← hcs]; simp [hz2]
  have q4 := h.drew.thread hx (begRh tw) (Chg.setCells (.inl rfl) _ _ (Chg.refl _ w.drew)) (h.drew.setTh hx (begRh tw)) (begRh_log _ _ _) (fun g hg => by cases hg)
  have c3 := q4.wcell 1 _ rfl
  have Q4 := hidI q4
  clear q4
  have H := hidI h
  have HX := hidI hx
  have HL := hidI hlen
  clear h hx hlen
  go_enter Tryz.func213, Tryz.ntmps213
  go_wp2_with fail
  go_region
  go_wp2_with fail
  refine (rtell_any Q4.out HL.out ⟨n, 1, tw.clock, 0⟩).mono ?_
  rintro e w1 ⟨rfl, ⟨ev', h1⟩, hc1⟩
  have H1 := hidI h1
  have HC1 := hidI hc1
  clear h1 hc1
  go_wp2_with fail
  go_end0
  refine ⟨rfl, ⟨_, ev', H1.out⟩, ?_⟩
  refine Chg.below ?_ Q4.out.base_le HC1.out Q4.out.ev_base
  exact Chg.below (S := fun k => k = t) (b := w.drew) (below_drewN (Below.refl base w) 1) H.out.base_le (Chg.setCells (S := fun k => k = t) rfl _ _ (Chg.refl _ w.drew)) (fun k hk => by rw [hk]; exact H.out.lt)
end Go.Proofs.YtilkpmjkiohfdaaGreatDoor

/- Package tso: Step, case by case. (Written by mktsog.py.) -/
import Derived.Test.YtopdcjimpdalpaaGreatTsoG
import Derived.StillTailTactics
import Derived.Deep.RegionHeld3
import Derived.OrdersHeld
namespace Go.Proofs.YtopdcjimpdalpaaGreat
open Go.RowKit
set_option linter.unusedVariables false
set_option linter.unusedSimpArgs false

theorem aWorks : Tryz.prog.underlying 195 = some (.array 16 194) := by kernel_rfl
theorem uWork : (Tryz.prog.info? 194).map (·.size) = some 1 := by kernel_rfl
theorem index_works {ki : Int} (hk : 1 ≤ ki ∧ ki ≤ 15) {F : FuncId} (hF : worksA[ki.toNat]? = some (.func (.func F) #[] #[])) (w : World) :
    Sem.run Tryz.prog (Instr.index 195 (.agg worksA) (.int .u8 ki)) w = .ok (.func (.func F) #[] #[]) w := by
  have hs : Sem.run Tryz.prog (sizeOf 194) w = .ok 1 w := by
    cases hq : Tryz.prog.info? 194 with
    | none => have := uWork; rw [hq] at this; cases this
    | some i => have := uWork; rw [hq] at this; simp at this; simp [sizeOf, typeInfo, hq, this]
  have h1 : 0 ≤ ki ∧ ki < 16 := by omega
  simp [Instr.index, asIntOf, run_underlying aWorks, hs, h1, part, hF]
theorem cell_allocT {w : World} {a : Addr} {u : Value} (h : w.cell? a = some u) (o : Obj) : (w.alloc o).cell? a = some u := by
  rw [World.cell?_of_block (w := w) (heap_alloc_old w o (World.block_lt_of_cell? w a h))]; exact h
theorem frozen_below {w w' : World} {m : Nat} {a : Addr} (h : Below m w w') (hl : a.block < m) (hf : w.frozen? a = false) : w'.frozen? a = false := by
  have := h.block _ hl
  unfold World.frozen? at hf ⊢
  rw [this]; exact hf
theorem frozen_alloc {w : World} {a : Addr} {o : Obj} (hf : w.frozen? a = false) (hl : a.block < w.heap.size) : (w.alloc o).drew.frozen? a = false := frozen_below (below_drewN ((Below.refl _ _).alloc (Nat.le_refl _) o) 1) hl hf
theorem go_ok {mm : MM} {n : Nat} {t : MT} {o : OpD} {a : Int} (h0 : 0 ≤ t.at_) (ho : t.code[t.at_.toNat]? = some o) (hw : t.word o = none ∧ a = 0 ∨ t.word o = some a ∧ mm.has a = true) : mm.go n t = if t.waits o = true then (false, mm) else (true, mm.act n t o a) := by
  unfold MM.go
  rw [if_neg (by omega), ho]
  rcases hw with ⟨h1, rfl⟩ | ⟨h1, h2⟩
  · simp only [h1]
  · simp only [h1, h2, if_true]
theorem go_bad {mm : MM} {n : Nat} {t : MT} {o : OpD} {a : Int} (h0 : 0 ≤ t.at_) (ho : t.code[t.at_.toNat]? = some o) (hw : t.word o = some a ∧ mm.has a = false) : mm.go n t = (true, mm.stop n t 8) := by
  unfold MM.go
  rw [if_neg (by omega), ho]
  simp [hw.1, hw.2]
theorem word_has {mm : MM} {t : MT} {o : OpD} {a : Int} (hw : t.word o = none ∧ a = 0 ∨ t.word o = some a ∧ mm.has a = true) : o.kind = 4 ∨ o.kind = 8 ∨ o.kind = 9 ∨ o.kind = 15 → mm.has a = true := by
  intro hk
  rcases hw with ⟨h1, h2⟩ | ⟨h1, h2⟩
  · unfold MT.word at h1
    split at h1
    · cases h1
    · rw [if_pos (by omega)] at h1
      cases h1
  · exact h2
theorem wait_room {t : MT} {o : OpD} (hk : o.kind = 5) (h : t.waits o = false) : t.wait.length < 64 := by
  unfold MT.waits at h
  rw [if_pos hk] at h
  simpa using h
theorem leaves_tmps {P : Program} {fn : Func} {t t' : Array Value} {R : Ending → World → Prop} (h : ∀ w, (results fn t).run P w = (results fn t').run P w) : ∀ (ds : List Deferred) (u : FrameMode) (w : World), Leaves P fn t R ds u w → Leaves P fn t' R ds u w := by
  intro ds
  induction ds with
  | nil =>
    intro u w hl
    cases u with
    | returning =>
      obtain ⟨v, h1, h2⟩ := hl
      exact ⟨v, (h w).symm.trans h1, h2⟩
    | panicking c => exact hl
    | run => exact hl
  | cons d ds ih =>
    intro u w hl
    obtain ⟨h1, fv, cap, f, args, h2, h3, h4⟩ := hl
    refine ⟨h1, fv, cap, f, args, h2, h3, h4.mono ?_⟩
    intro e u' w' hr
    cases e with
    | returned v => exact ih _ _ hr
    | panicked c => exact ih _ _ hr
    | outgrown => exact hr
/-- what a panic of Step leaves does not hang on the slots that come late -/
theorem calm {K : Act → World → Prop} {R : Ending → World → Prop} {d : Nat} {v : Value} (hd : 4 < d) (c : List PanicEntry) (a : Act) (w : World) (h : (Exit.then K (bodyPostD Tryz.prog Tryz.f63 R)) (.panic c) (a.put (some d) v) w) :
    (Exit.then K (bodyPostD Tryz.prog Tryz.f63 R)) (.panic c) a w := by
  refine leaves_tmps (t := (a.put (some d) v).tmps) (fun w => ?_) _ _ _ h
  have : (a.tmps.setIfInBounds d v)[4]? = a.tmps[4]? := by
    rw [Array.getElem?_setIfInBounds]
    rw [if_neg (by omega)]
  simp [results, Tryz.results63, Act.put, this]
theorem own_apart {own : Nat → Nat} {tb p : Nat} (h3 : own tb = 3) (h0 : own p = 0) (e : p = tb) : False := by rw [e, h3] at h0; cases h0
theorem heapSize_drewN (w : World) (n : Nat) : (w.drewN n).heap.size = w.heap.size := rfl

variable {w w' : World} {base b : Nat} {own own' : Nat → Nat} {mm : MM} {xs : List TX} {mv ev : Value} {tb cap n : Nat} {x : TX}

set_option maxRecDepth 100000 in
set_option maxHeartbeats 2000000 in
/-- Step$1, called as the frame returns -/
theorem catch_idle (w : World) (pt pd pm : Nat) :
    CallsD Tryz.prog 101 #[.pointer (some ⟨pt, 0, none⟩), .pointer (some ⟨pd, 0, none⟩), .pointer (some ⟨pm, 0, none⟩)] .returning w fun e u' w' => e = .returned (.tuple #[]) ∧ u' = .returning ∧ w' = w := by
  refine callsD_of_wpS Tryz.func101 rfl fun c₀ cs hu => ?_
  simp only [Tryz.ntmps101, List.size_toArray, List.length_cons, List.length_nil, Nat.reduceAdd, Nat.reduceSub, Array.replicate_succ,
     Array.replicate_zero, List.push_toArray, List.append_toArray, List.nil_append, List.cons_append]
  apply wpS_seq
  apply wpS_region
  simp [wpOpsS, go_sem, recoverD, hu, Tryz.ntmps101, Exit.thenS]
  refine wpS_of_wp (wp_hid fun Q' hQ => ?_)
  have HQ := hidI hQ
  have HU := hidI hu
  clear hQ hu
  go_wp2_with fail
  rw [HQ.out]
  refine ⟨rfl, .returning, ?_, _, results_none rfl _ _ _, rfl, rfl, rfl⟩
  have := HU.out
  cases c₀
  simp_all

set_option maxRecDepth 100000 in
set_option maxHeartbeats 2000000 in
theorem step_fin (h : MAt w base b own mm xs mv (.slice (some ⟨tb, 0, none⟩) xs.length cap) ev) (hx : xs[n]? = some x) (hf : x.th.fin ≠ 0) :
    Calls Tryz.prog 63 #[.pointer (some ⟨b, 0, none⟩), .int .i64 (n : Int)] w fun r w' => r = .returned (.bool false) ∧ Below w.heap.size w w' := by
  have hb2 : Below w.heap.size w ((w.alloc (.cells #[.pointer (some ⟨b, 0, none⟩)] 144)).alloc (.cells #[.bool false] 4)) := (((Below.refl w.heap.size w).alloc (Nat.le_refl _) _).alloc (by simp) _)
  have hb3 : Below w.heap.size w (((w.alloc (.cells #[.pointer (some ⟨b, 0, none⟩)] 144)).alloc (.cells #[.bool false] 4)).alloc (.cells #[.pointer (some ⟨tb, n * 13, none⟩)] 186)) := hb2.alloc (by simp; omega) _
  have h2 := h.below hb2
  have h3 := h.below hb3
  have hw0 : own w.heap.size = 0 := h.fresh _ (Nat.le_refl _)
  have hw1 : own (w.heap.size + 1) = 0 := h.fresh _ (by omega)
  have hw2 : own (w.heap.size + 1 + 1) = 0 := h.fresh _ (by omega)
  have kB := block_new ((w.alloc (.cells #[.pointer (some ⟨b, 0, none⟩)] 144)).alloc (.cells #[.bool false] 4)) (.cells #[.pointer (some ⟨tb, n * 13, none⟩)] 186)
  have kA := heap_alloc_new (w.alloc (.cells #[.pointer (some ⟨b, 0, none⟩)] 144)) (.cells #[.bool false] 4)
  simp only [World.size_alloc] at kA kB
  have kA' := (heap_alloc_old ((w.alloc (.cells #[.pointer (some ⟨b, 0, none⟩)] 144)).alloc (.cells #[.bool false] 4)) (.cells #[.pointer (some ⟨tb, n * 13, none⟩)] 186) (show w.heap.size + 1 < _ by simp)).trans kA
  have kC := (heap_alloc_old ((w.alloc (.cells #[.pointer (some ⟨b, 0, none⟩)] 144)).alloc (.cells #[.bool false] 4)) (.cells #[.pointer (some ⟨tb, n * 13, none⟩)] 186) (show w.heap.size < _ by simp; omega)).trans ((heap_alloc_old (w.alloc (.cells #[.pointer (some ⟨b, 0, none⟩)] 144)) (.cells #[.bool false] 4) (show w.heap.size < _ by simp)).trans (heap_alloc_new w (.cells #[.pointer (some ⟨b, 0, none⟩)] 144)))
  have ct : (((w.alloc (.cells #[.pointer (some ⟨b, 0, none⟩)] 144)).alloc (.cells #[.bool false] 4)).alloc (.cells #[.pointer (some ⟨tb, n * 13, none⟩)] 186)).cell? ⟨w.heap.size + 1 + 1, 0, none⟩ = some (.pointer (some ⟨tb, n * 13, none⟩)) := cell_of_block kB rfl
  have cd : (((w.alloc (.cells #[.pointer (some ⟨b, 0, none⟩)] 144)).alloc (.cells #[.bool false] 4)).alloc (.cells #[.pointer (some ⟨tb, n * 13, none⟩)] 186)).cell? ⟨w.heap.size + 1, 0, none⟩ = some (.bool false) := cell_of_block kA' rfl
  have fd : (((w.alloc (.cells #[.pointer (some ⟨b, 0, none⟩)] 144)).alloc (.cells #[.bool false] 4)).alloc (.cells #[.pointer (some ⟨tb, n * 13, none⟩)] 186)).frozen? ⟨w.heap.size + 1, 0, none⟩ = false := free_of_block kA'
  have cm : (((w.alloc (.cells #[.pointer (some ⟨b, 0, none⟩)] 144)).alloc (.cells #[.bool false] 4)).alloc (.cells #[.pointer (some ⟨tb, n * 13, none⟩)] 186)).cell? ⟨w.heap.size, 0, none⟩ = some (.pointer (some ⟨b, 0, none⟩)) := cell_of_block kC rfl
  have e0 := h3.cell hx 0 _ rfl
  rw [Nat.add_zero] at e0
  have e9 := h3.cell hx 9 _ rfl
  have e12 := h3.cell hx 12 _ rfl
  have e12' := h3.cell hx 12 _ rfl
  have HX := hidI hx
  have H := hidI h
  have H2 := hidI h2
  have H3 := hidI h3
  have HB := hidI hb3
  have HW := hidI (And.intro hw0 (And.intro hw1 hw2))
  have hf' : (x.th.fin == 0) = false := by simpa using hf
  have hf2 : (x.th.fin != 0) = true := by simpa using hf
  have hmf : ∀ (fn : Fn) (first cap : Array Value) (w : World), (Instr.makeFunc fn first cap).run Tryz.prog w = .ok (.func fn first cap) w := fun _ _ _ _ => rfl
  clear hx h h2 h3 hb2 hb3 kA kB kA' kC hw0 hw1 hw2
  go_enter_defers Tryz.func63, Tryz.ntmps63
  go_wp2_with fail
  refine (of_yes H2.out HX.out).mono ?_
  rintro e w1 ⟨rfl, rfl⟩
  go_wp2_with fail
  refine ⟨.bool false, ?_, rfl, HB.out⟩
  simp [results, Tryz.results63, go_sem]

set_option maxRecDepth 100000 in
set_option maxHeartbeats 2000000 in
theorem step_far (h : MAt w base b own mm xs mv (.slice (some ⟨tb, 0, none⟩) xs.length cap) ev) (hx : xs[n]? = some x) (hf : x.th.fin = 0) (hat : x.th.at_ < 0 ∨ x.th.code.length ≤ x.th.at_) (hev : mm.evs.length < 1000000000) (h4 : xs.length ≤ 4) :
    Calls Tryz.prog 63 #[.pointer (some ⟨b, 0, none⟩), .int .i64 (n : Int)] w fun r w' => r = .returned (.bool (mm.go n x.th).1) ∧ MGoes w base b own (mm.go n x.th).2 w' := by
  have hb2 : Below w.heap.size w ((w.alloc (.cells #[.pointer (some ⟨b, 0, none⟩)] 144)).alloc (.cells #[.bool false] 4)) := (((Below.refl w.heap.size w).alloc (Nat.le_refl _) _).alloc (by simp) _)
  have hb3 : Below w.heap.size w (((w.alloc (.cells #[.pointer (some ⟨b, 0, none⟩)] 144)).alloc (.cells #[.bool false] 4)).alloc (.cells #[.pointer (some ⟨tb, n * 13, none⟩)] 186)) := hb2.alloc (by simp; omega) _
  have h2 := h.below hb2
  have h3 := h.below hb3
  have hw0 : own w.heap.size = 0 := h.fresh _ (Nat.le_refl _)
  have hw1 : own (w.heap.size + 1) = 0 := h.fresh _ (by omega)
  have hw2 : own (w.heap.size + 1 + 1) = 0 := h.fresh _ (by omega)
  have kB := block_new ((w.alloc (.cells #[.pointer (some ⟨b, 0, none⟩)] 144)).alloc (.cells #[.bool false] 4)) (.cells #[.pointer (some ⟨tb, n * 13, none⟩)] 186)
  have kA := heap_alloc_new (w.alloc (.cells #[.pointer (some ⟨b, 0, none⟩)] 144)) (.cells #[.bool false] 4)
  simp only [World.size_alloc] at kA kB
  have kA' := (heap_alloc_old ((w.alloc (.cells #[.pointer (some ⟨b, 0, none⟩)] 144)).alloc (.cells #[.bool false] 4)) (.cells #[.pointer (some ⟨tb, n * 13, none⟩)] 186) (show w.heap.size + 1 < _ by simp)).trans kA
  have kC := (heap_alloc_old ((w.alloc (.cells #[.pointer (some ⟨b, 0, none⟩)] 144)).alloc (.cells #[.bool false] 4)) (.cells #[.pointer (some ⟨tb, n * 13, none⟩)] 186) (show w.heap.size < _ by simp; omega)).trans ((heap_alloc_old (w.alloc (.cells #[.pointer (some ⟨b, 0, none⟩)] 144)) (.cells #[.bool false] 4) (show w.heap.size < _ by simp)).trans (heap_alloc_new w (.cells #[.pointer (some ⟨b, 0, none⟩)] 144)))
  have ct : (((w.alloc (.cells #[.pointer (some ⟨b, 0, none⟩)] 144)).alloc (.cells #[.bool false] 4)).alloc (.cells #[.pointer (some ⟨tb, n * 13, none⟩)] 186)).cell? ⟨w.heap.size + 1 + 1, 0, none⟩ = some (.pointer (some ⟨tb, n * 13, none⟩)) := cell_of_block kB rfl
  have cd : (((w.alloc (.cells #[.pointer (some ⟨b, 0, none⟩)] 144)).alloc (.cells #[.bool false] 4)).alloc (.cells #[.pointer (some ⟨tb, n * 13, none⟩)] 186)).cell? ⟨w.heap.size + 1, 0, none⟩ = some (.bool false) := cell_of_block kA' rfl
  have fd : (((w.alloc (.cells #[.pointer (some ⟨b, 0, none⟩)] 144)).alloc (.cells #[.bool false] 4)).alloc (.cells #[.pointer (some ⟨tb, n * 13, none⟩)] 186)).frozen? ⟨w.heap.size + 1, 0, none⟩ = false := free_of_block kA'
  have cm : (((w.alloc (.cells #[.pointer (some ⟨b, 0, none⟩)] 144)).alloc (.cells #[.bool false] 4)).alloc (.cells #[.pointer (some ⟨tb, n * 13, none⟩)] 186)).cell? ⟨w.heap.size, 0, none⟩ = some (.pointer (some ⟨b, 0, none⟩)) := cell_of_block kC rfl
  have e0 := h3.cell hx 0 _ rfl
  rw [Nat.add_zero] at e0
  have e9 := h3.cell hx 9 _ rfl
  have e12 := h3.cell hx 12 _ rfl
  have e12' := h3.cell hx 12 _ rfl
  have HX := hidI hx
  have H := hidI h
  have H2 := hidI h2
  have H3 := hidI h3
  have HB := hidI hb3
  have HW := hidI (And.intro hw0 (And.intro hw1 hw2))
  have HE := hidI hev
  have H4 := hidI h4
  clear hev h4
  obtain ⟨hflat, ao, ccap, hcv, hle, hcells⟩ := (h3.th n x hx).code
  rw [hcv] at e0
  have HCELLS := hidI hcells
  have HFLAT := hidI hflat
  rw [hf] at e12
  clear hle hcv hcells hflat
  have HGO := hidI (show mm.go n x.th = (true, mm.stop n x.th 8) from by
    unfold MM.go
    by_cases h0 : x.th.at_ < 0
    · rw [if_pos h0]
    · rw [if_neg h0, List.getElem?_eq_none (by omega)])
  have hmf : ∀ (fn : Fn) (first cap : Array Value) (w : World), (Instr.makeFunc fn first cap).run Tryz.prog w = .ok (.func fn first cap) w := fun _ _ _ _ => rfl
  clear hx h h2 h3 hb2 hb3 kA kB kA' kC hw0 hw1 hw2
  go_enter_defers Tryz.func63, Tryz.ntmps63
  go_wp2_with fail
  refine (of_yes H2.out HX.out).mono ?_
  rintro e w1 ⟨rfl, rfl⟩
  go_wp2_with fail
  generalize (((w.alloc (.cells #[.pointer (some ⟨b, 0, none⟩)] 144)).alloc (.cells #[.bool false] 4)).alloc (.cells #[.pointer (some ⟨tb, n * 13, none⟩)] 186)) = w3 at H3 HB ct cd fd cm e0 e9 e12 e12' ⊢
  rcases hat with hat | hat
  · go_quiet (fail)
    go_wp2_with fail
    refine leaves_cons (f := 101) (args := #[.pointer (some ⟨w.heap.size + 1 + 1, 0, none⟩), .pointer (some ⟨w.heap.size + 1, 0, none⟩), .pointer (some ⟨w.heap.size, 0, none⟩)]) (by simp) (by simp [go_sem]) ?_
    refine (catch_ends (w := w3.drewN nq) (H3.out.drewN nq) HX.out HE.out H4.out 8 (by omega) ct cd fd cm HW.out.2.2 HW.out.2.1 HW.out.1 (by omega) (by omega)).mono ?_
    rintro e u' w4 ⟨rfl, rfl, hd, ⟨own2, ev2, hm, ho⟩, hc⟩
    have hs3 := (below_drewN HB.out nq).size
    have hs : w.heap.size ≤ (w3.drewN nq).heap.size := by first | exact hs3 | (rw [heapSize_drewN]; exact hs3)
    refine ⟨.bool true, ?_, by rw [HGO.out], ⟨own2, _, mv, _, ev2, by rw [HGO.out]; exact hm, fun k hk => ho k (by omega)⟩, Chg.then_ (Chg.of_below (below_drewN HB.out nq)) hc (fun k hk e => by
      rcases e with e | e
      · omega
      · exact e)⟩
    simp [results, Tryz.results63, hd, go_sem]
  · have hat0 : decide (x.th.at_ < 0) = false := decide_eq_false (by omega)
    go_quiet (fail)
    go_wp2_with fail
    refine leaves_cons (f := 101) (args := #[.pointer (some ⟨w.heap.size + 1 + 1, 0, none⟩), .pointer (some ⟨w.heap.size + 1, 0, none⟩), .pointer (some ⟨w.heap.size, 0, none⟩)]) (by simp) (by simp [go_sem]) ?_
    refine (catch_ends (w := w3.drewN nq) (H3.out.drewN nq) HX.out HE.out H4.out 8 (by omega) ct cd fd cm HW.out.2.2 HW.out.2.1 HW.out.1 (by omega) (by omega)).mono ?_
    rintro e u' w4 ⟨rfl, rfl, hd, ⟨own2, ev2, hm, ho⟩, hc⟩
    have hs3 := (below_drewN HB.out nq).size
    have hs : w.heap.size ≤ (w3.drewN nq).heap.size := by first | exact hs3 | (rw [heapSize_drewN]; exact hs3)
    refine ⟨.bool true, ?_, by rw [HGO.out], ⟨own2, _, mv, _, ev2, by rw [HGO.out]; exact hm, fun k hk => ho k (by omega)⟩, Chg.then_ (Chg.of_below (below_drewN HB.out nq)) hc (fun k hk e => by
      rcases e with e | e
      · omega
      · exact e)⟩
    simp [results, Tryz.results63, hd, go_sem]


end Go.Proofs.YtopdcjimpdalpaaGreat

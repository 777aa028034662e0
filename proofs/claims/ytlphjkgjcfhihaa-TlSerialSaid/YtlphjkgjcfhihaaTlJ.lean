/- Package tl2: the contract of back; lock in all cases. -/
import Derived.Test.YtlphjkgjcfhihaaTlI
import Derived.Deep.RegionHeld3
namespace Go.Proofs.Ytlphjkgjcfhihaa
set_option linter.unusedVariables false
set_option linter.unusedSimpArgs false
open Go.RowKit

variable {w w' : World} {base b m t : Nat} {tw : TW} {ts : List (Th × Value)} {ev : Value}

theorem cell_otherD {w : World} {a p : Addr} {u v : Value} (h : w.cell? a = some v) (hn : ¬ a.block = p.block) : (w.setCell p u).drew.cell? a = some v := by
  show (w.setCell p u).cell? a = some v
  rw [World.cell?_of_block (w := w) (Below.heap_setCell _ _ _ _ hn)]; exact h

theorem lt_of_heap_eq {w w' : World} {g : Nat} (h : w'.heap[g]? = w.heap[g]?) (hg : g < w.heap.size) : g < w'.heap.size := by
  rcases Nat.lt_or_ge g w'.heap.size with h1 | h1
  · exact h1
  · rw [Array.getElem?_eq_none h1, Array.getElem?_eq_getElem hg] at h; cases h

theorem lock_any (h : TlAt w base b m t tw ts ev) {n : Nat} {x : Th × Value} (hx : ts[n]? = some x) (hn4 : n < 4) {k i : Nat} (hok : ThOk x.1 k i) (hlen : tw.evs.length < 70000) (hck : 0 ≤ tw.clock ∧ tw.clock ≤ 70000) :
    Calls Try.prog 42 #[.pointer (some ⟨b, 0, none⟩), .int .i64 (n : Int)] w (TlDone base b m t (tw.lock n x.1) w) := by
  cases hw : wanted x.1 with
  | none => exact lock_none h hx hn4 hok hlen hw hck
  | some s =>
    cases hl : isLocked (tw.locks s) with
    | true => exact lock_taken h hx hn4 hok hlen hw hl
    | false => exact lock_free h hx hn4 hok hlen hw hl

set_option maxHeartbeats 1000000 in
theorem back_end (h : TlAt w base b m t tw ts ev) {n : Nat} {x : Th × Value} (hx : ts[n]? = some x) {k i : Nat} (hok : ThOk x.1 k i) (hi : i ≤ 70000) (hlog : x.1.log = []) :
    Calls Try.prog 43 #[.pointer (some ⟨b, 0, none⟩), .int .i64 (n : Int)] w (TlDone base b m t (tw.back n x.1) w) := by
  have HR := hidI (show tw.back n x.1 = { tw with locks := freed x.1.held (fun _ => 2 * x.1.now) tw.locks, ths := tw.ths.set n Th.none } from by unfold TW.back; rw [hlog])
  obtain ⟨ao, c, hv, _⟩ := h.logcell hx
  rw [hlog] at hv
  have c1 := h.wcell 18 _ rfl
  have c2 : w.cell? ⟨t, n * 22 + 3, none⟩ = some (.slice ao 0 c) := by have := h.cell hx 3 _ rfl; rw [hv] at this; exact this
  have hn : n < ts.length := (List.getElem?_eq_some_iff.1 hx).1
  have H := hidI h
  have HX := hidI hx
  have HOK := hidI hok
  have HI := hidI hi
  have hmf : ∀ (fn : Fn) (first cap : Array Value) (w : World), (Instr.makeFunc fn first cap).run Try.prog w = .ok (.func fn first cap) w := fun _ _ _ _ => rfl
  clear h hx hok hlog hv hi
  go_enter Try.func43, Try.ntmps43
  have hblt := H.out.blt
  have htlt := H.out.tlt
  have c2' : (w.alloc (.cells #[.pointer (some ⟨t, n * 22, none⟩)] 91)).cell? ⟨t, n * 22 + 3, none⟩ = some (.slice ao 0 c) := by rw [World.cell?_alloc_lt _ _ _ htlt]; exact c2
  go_wp2_with fail
  have HG := hidI (block_new w (.cells #[.pointer (some ⟨t, n * 22, none⟩)] 91))
  have H0 := hidI (H.out.below ((Below.refl _ _).alloc (Nat.le_refl _) (.cells #[.pointer (some ⟨t, n * 22, none⟩)] 91)))
  refine (release_new H0.out HX.out HOK.out.hd ⟨HOK.out.now0, by have := HOK.out.now1; have := HI.out; omega⟩ HG.out (by omega)).mono ?_
  rintro e w1 ⟨rfl, h1, hc1⟩
  have hg2 := chgblk hc1 HG.out (fun e => by omega)
  have c3 : w1.cell? ⟨w.heap.size, 0, none⟩ = some (.pointer (some ⟨t, n * 22, none⟩)) := cell_of_block (o := 0) hg2 rfl
  have q1 : w1.there t (n * 22) (encTh noTh).toArray.size := h1.there HX.out
  have q2 : (Try.prog.info? 80).map (·.size) = some (encTh noTh).toArray.size := thInfo
  have q3 := encTh_one noTh rfl
  have H1 := hidI h1
  have HC1 := hidI hc1
  clear h1 hc1 hblt htlt c2 c2' c1 hg2
  go_wp2_with (refine wpList_store_mid rfl 80 _ _ rfl t (n * 22) (encTh noTh).toArray rfl rfl q1 q2 q3 ?_)
  have hw2 := H1.out.setTh HX.out noTh
  go_end0
  rw [HR.out]
  refine ⟨rfl, ⟨ts.set n noTh, ev, H1.out.thread HX.out noTh (Chg.setCells (.inl rfl) _ _ (Chg.refl _ w1)) hw2 (noTh_log _ _) (fun g hg => by cases hg)⟩, ?_⟩
  refine Chg.below (S := fun k => k = t) ?_ H1.out.base_le (Chg.setCells (S := fun k => k = t) rfl _ _ (Chg.refl _ w1)) (fun k hk => by rw [hk]; exact H1.out.lt)
  exact Chg.below ((Below.refl _ _).alloc H.out.base_le _) H0.out.base_le HC1.out (fun k hk => by rw [hk]; exact H.out.lb)

set_option maxHeartbeats 2000000 in
theorem back_word (h : TlAt w base b m t tw ts ev) {n : Nat} {x : Th × Value} (hx : ts[n]? = some x) (hph : x.1.phase = 3) {a : Nat} {v : Int} {l : List (Int × Int)} (ha : a < tw.mem.length) (hll : x.1.log.length ≤ 64) (hlog : x.1.log = ((a : Int), v) :: l) :
    Calls Try.prog 43 #[.pointer (some ⟨b, 0, none⟩), .int .i64 (n : Int)] w (TlDone base b m t (tw.back n x.1) w) := by
  have HR := hidI (show tw.back n x.1 = { tw with mem := tw.mem.set a v, ths := tw.ths.set n { x.1 with log := l } } from by unfold TW.back; rw [hlog]; rfl)
  obtain ⟨ao, c, hv, hcell⟩ := h.logcell hx
  obtain ⟨g, o, rfl, hg, hcs⟩ := hcell (by rw [hlog]; simp)
  obtain ⟨d1, d2⟩ := hcs 0 _ (by rw [hlog]; rfl)
  simp only [Nat.zero_mul, Nat.add_zero] at d1 d2
  have hln : x.1.log.length = l.length + 1 := by rw [hlog]; rfl
  rw [hln] at hv hll
  have c1 := h.wcell 18 _ rfl
  have c0 := h.wcell 0 _ rfl
  have c2 : w.cell? ⟨t, n * 22 + 3, none⟩ = some (.slice (some ⟨g, o, none⟩) (l.length + 1) c) := by have := h.cell hx 3 _ rfl; rw [hv] at this; exact this
  have c4 := memcell h ha
  have hn : n < ts.length := (List.getElem?_eq_some_iff.1 hx).1
  have H := hidI h
  have HX := hidI hx
  have HPH := hidI hph
  have HV := hidI hv
  have HLOG := hidI hlog
  have hblt := h.blt
  have htlt := h.tlt
  have hmlt := h.mlt
  have HCS := hidI hcs
  have hgm : ¬ g = m := fun e => (h.lg_ne n g x hx (by rw [hv]; rfl)).2.1 e
  have hgt : ¬ g = t := fun e => (h.lg_ne n g x hx (by rw [hv]; rfl)).2.2.1 e
  have hgb := ((h.log n x hx).1 g (by rw [hv]; rfl)).1
  have HGB := hidI hgb
  have hbm : ¬ b = m := h.bm
  have htm : ¬ t = m := fun e => h.mt e.symm
  have hsm : ¬ w.heap.size = m := by omega
  have hst : ¬ w.heap.size = t := by omega
  have f4 : w.frozen? ⟨m, a, none⟩ = false := free_of_block h.mem
  have c5 := block_new w (.cells #[.pointer (some ⟨t, n * 22, none⟩)] 91)
  have c5' : (w.alloc (.cells #[.pointer (some ⟨t, n * 22, none⟩)] 91)).cell? ⟨w.heap.size, 0, none⟩ = some (.pointer (some ⟨t, n * 22, none⟩)) := cell_of_block (o := 0) c5 rfl
  have c0' : (w.alloc (.cells #[.pointer (some ⟨t, n * 22, none⟩)] 91)).cell? ⟨b, 0, none⟩ = some (.slice (some ⟨m, 0, none⟩) tw.mem.length tw.mem.length) := by rw [World.cell?_alloc_lt _ _ _ hblt]; exact c0
  have c2' : (w.alloc (.cells #[.pointer (some ⟨t, n * 22, none⟩)] 91)).cell? ⟨t, n * 22 + 3, none⟩ = some (.slice (some ⟨g, o, none⟩) (l.length + 1) c) := by rw [World.cell?_alloc_lt _ _ _ htlt]; exact c2
  have d1' : (w.alloc (.cells #[.pointer (some ⟨t, n * 22, none⟩)] 91)).cell? ⟨g, o, none⟩ = some (.int .i64 a) := by rw [World.cell?_alloc_lt _ _ _ hg]; exact d1
  have d2' : (w.alloc (.cells #[.pointer (some ⟨t, n * 22, none⟩)] 91)).cell? ⟨g, o + 1, none⟩ = some (.int .i64 v) := by rw [World.cell?_alloc_lt _ _ _ hg]; exact d2
  have c4' : (w.alloc (.cells #[.pointer (some ⟨t, n * 22, none⟩)] 91)).cell? ⟨m, a, none⟩ = some (.int .i64 (tw.mem.getD a 0)) := by rw [World.cell?_alloc_lt _ _ _ hmlt]; exact c4
  have f4' : (w.alloc (.cells #[.pointer (some ⟨t, n * 22, none⟩)] 91)).frozen? ⟨m, a, none⟩ = false := by rw [World.frozen?_alloc_past _ _ _ hmlt]; exact f4
  have HBL := hidI hblt
  have HTL := hidI htlt
  have HML := hidI hmlt
  have HG := hidI hg
  clear h hx hph hlog hv hcs hcell hln hgb c5
  go_enter Try.func43, Try.ntmps43
  go_wp2_with fail
  have hk1 : (w.alloc (.cells #[.pointer (some ⟨t, n * 22, none⟩)] 91)).heap[g]? = w.heap[g]? := Below.heap_alloc _ _ _ hg
  have hb1 : Below base w (w.alloc (.cells #[.pointer (some ⟨t, n * 22, none⟩)] 91)) := (Below.refl _ _).alloc H.out.base_le _
  have HB1 := hidI hb1
  have HK1 := hidI hk1
  clear c0 c1 c2 c4 d1 d2 f4 hblt htlt hmlt hg hk1 hb1
  have H0 := hidI (H.out.below ((Below.refl _ _).alloc (Nat.le_refl _) (.cells #[.pointer (some ⟨t, n * 22, none⟩)] 91)))
  generalize w.alloc (.cells #[.pointer (some ⟨t, n * 22, none⟩)] 91) = w1 at H0 HB1 HK1 c5' c0' c2' d1' d2' c4' f4' ⊢
  go_region_held3 (fun w' => w'.cell? ⟨b, 0, none⟩ = some (.slice (some ⟨m, 0, none⟩) tw.mem.length tw.mem.length) ∧ w'.cell? ⟨w.heap.size, 0, none⟩ = some (.pointer (some ⟨t, n * 22, none⟩)) ∧ w'.cell? ⟨t, n * 22 + 3, none⟩ = some (.slice (some ⟨g, o, none⟩) (l.length + 1) c) ∧
    w'.cell? ⟨g, o, none⟩ = some (.int .i64 a) ∧ w'.cell? ⟨g, o + 1, none⟩ = some (.int .i64 v)) (refine ⟨?_, ?_, ?_, ?_, ?_⟩ <;> first | assumption | (refine cell_otherD ?_ ?_ <;> assumption) | simp only [World.cell?_drew, *]) (fail)
  have h2 := (H0.out.word ((Chg.refl (fun k => k = m) w1).setCell (p := ⟨m, a, none⟩) (.inl rfl) _) a v (block_setCell _ H0.out.mem)).drew
  have hb2 := Chg.to_below (S := fun k => k = m) (((Chg.refl (fun k => k = m) w1).setCell (p := ⟨m, a, none⟩) (.inl rfl) (.int .i64 v)).drew) H0.out.base_le (fun k hk => by rw [hk]; exact H.out.lm)
  have e5 : (w1.setCell ⟨m, a, none⟩ (.int .i64 v)).drew.cell? ⟨w.heap.size, 0, none⟩ = some (.pointer (some ⟨t, n * 22, none⟩)) := cell_otherD c5' hsm
  have e2 : (w1.setCell ⟨m, a, none⟩ (.int .i64 v)).drew.cell? ⟨t, n * 22 + 3, none⟩ = some (.slice (some ⟨g, o, none⟩) (l.length + 1) c) := cell_otherD c2' htm
  have f2 := h2.free (n * 22 + 3)
  have hk2 : (w1.setCell ⟨m, a, none⟩ (.int .i64 v)).drew.heap[g]? = w.heap[g]? := (Below.heap_setCell _ _ _ _ hgm).trans HK1.out
  have hb2' := HB1.out.trans hb2
  have H2 := hidI h2
  have HB2 := hidI hb2'
  have HK2 := hidI hk2
  clear h2 hb2 c5' c2' d1' d2' c0' c4' f4' hk2 hb2'
  generalize (w1.setCell ⟨m, a, none⟩ (.int .i64 v)).drew = w2 at H2 HB2 HK2 e5 e2 f2 ⊢
  go_wp2_with fail
  go_region
  have hr := (H.out.log n x HX.out).rd
  have hv := HV.out
  obtain ⟨ao', hao⟩ : ∃ ao', (if c = 1 then some (⟨g, o, none⟩ : Addr) else some ⟨g, o + 2, none⟩) = ao' := ⟨_, rfl⟩
  rw [hao]
  have hob : ao' = some ⟨g, o, none⟩ ∨ ao' = some ⟨g, o + 2, none⟩ := by
    rw [← hao]; split
    · exact .inl rfl
    · exact .inr rfl
  have hob2 : ∀ g', (Value.slice ao' l.length (c - 1)).ownBlock = some g' → g' = g := fun g' h => by
    rcases hob with e | e <;> rw [e] at h <;> simp only [Value.ownBlock, Option.some.injEq] at h <;> exact h.symm
  have hkf : (w2.setCell ⟨t, n * 22 + 3, none⟩ (.slice ao' l.length (c - 1))).drew.heap[g]? = w.heap[g]? := (Below.heap_setCell _ _ _ _ hgt).trans HK2.out
  have hlog := HLOG.out
  have hrd : Rd (w2.setCell ⟨t, n * 22 + 3, none⟩ (.slice ao' l.length (c - 1))).drew 2 (.slice ao' l.length (c - 1)) l.length (l.flatMap encCell) := by
    rw [hv, hlog] at hr
    obtain ⟨r1, ao2, cap2, r2, r3, r4⟩ := hr
    simp only [List.length_cons, Value.slice.injEq, true_and] at r2
    obtain ⟨rfl, rfl⟩ := r2
    simp only [List.length_cons] at r3 r4
    refine ⟨flat_len encCell_len l, ao', c - 1, rfl, by omega, fun hl => ?_⟩
    obtain ⟨g2, o2, e1, r5, r6⟩ := r4 (by omega)
    simp only [Option.some.injEq, Addr.mk.injEq, and_true] at e1
    obtain ⟨rfl, rfl⟩ := e1
    rw [if_neg (by omega)] at hao
    refine ⟨g, o + 2, hao.symm, ?_, fun j u hj => ?_⟩
    · have := HB2.out.size
      show g < (w2.heap.modify t _).size
      rw [Array.size_modify]
      exact lt_of_heap_eq HK2.out r5
    · rw [World.cell?_of_block hkf, Nat.add_assoc]
      refine r6 (2 + j) u ?_
      rw [List.flatMap_cons, List.getElem?_append_right (by rw [encCell_len]; omega), encCell_len, show 2 + j - 2 = j from by omega]
      exact hj
  have hc : Chg (fun k => k = t ∨ x.2.ownBlock = some k) w2 (w2.setCell ⟨t, n * 22 + 3, none⟩ (.slice ao' l.length (c - 1))).drew := ((Chg.refl _ w2).setCell (p := ⟨t, n * 22 + 3, none⟩) (.inl (.inl rfl)) _).drew
  have h3 := H2.out.thread HX.out ({ x.1 with log := l }, .slice ao' l.length (c - 1)) hc
    (by show (w2.setCell _ _).heap[t]? = _; rw [block_setCell _ H2.out.ths, flat_set encTh_len (y := ({ x.1 with log := l }, .slice ao' l.length (c - 1))) (j := 3) (u := .slice ao' l.length (c - 1)) ts HX.out rfl (by decide)]; simp)
    ⟨fun g' hg' => by
      obtain rfl := hob2 g' hg'
      refine ⟨HGB.out, ?_⟩
      show g' < (w2.heap.modify t _).size
      rw [Array.size_modify]
      exact lt_of_heap_eq HK2.out HG.out, .inr ⟨HPH.out, hrd⟩⟩
    (fun g' hg' => .inl (by obtain rfl := hob2 g' hg'; rw [hv]; rfl))
  have H3 := hidI h3
  have HB3 := hidI (Chg.to_below (S := fun k => k = t) (((Chg.refl (fun k => k = t) w2).setCell (p := ⟨t, n * 22 + 3, none⟩) (.inl rfl) (.slice ao' l.length (c - 1))).drew) H2.out.base_le (fun k hk => by rw [hk]; exact H.out.lt))
  clear h3 hc hrd hkf hob hob2 hao hr hv hlog
  go_wp2_with fail
  go_end0
  rw [HR.out]
  exact ⟨rfl, ⟨_, ev, H3.out⟩, HB2.out.trans HB3.out⟩

end Go.Proofs.Ytlphjkgjcfhihaa

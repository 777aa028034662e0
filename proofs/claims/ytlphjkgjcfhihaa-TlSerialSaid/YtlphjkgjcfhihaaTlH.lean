/- Package tl2: the contract of write. -/
import Derived.Test.YtlphjkgjcfhihaaTlG
namespace Go.Proofs.Ytlphjkgjcfhihaa
set_option linter.unusedVariables false
set_option linter.unusedSimpArgs false
open Go.RowKit

variable {w w' : World} {base b m t : Nat} {tw : TW} {ts : List (Th × Value)} {ev : Value}

theorem ownsRow_set {α : Type} {enc : α → List Value} {sz : Nat} (he : ∀ a, (enc a).length = sz) {w : World} {base : Nat} {e : TypeId} {g o n c : Nat} {l : List α} (h : w.ownsRow base e sz (.slice (some ⟨g, o, none⟩) n c) n (l.flatMap enc))
    {k : Nat} {x y : α} {j : Nat} {u : Value} (hx : l[k]? = some x) (hy : enc y = (enc x).set j u) (hj : j < sz) :
    o = 0 ∧ (w.setCell ⟨g, k * sz + j, none⟩ u).ownsRow base e sz (.slice (some ⟨g, o, none⟩) n c) n ((l.set k y).flatMap enc) := by
  rcases h.2 with ⟨hv, _⟩ | ⟨g', cap, cur, hv, hb, hg, hc, hm, hs, ht⟩
  · simp at hv
  · simp only [Value.slice.injEq, Option.some.injEq, Addr.mk.injEq, and_true, true_and] at hv
    obtain ⟨⟨rfl, rfl⟩, rfl⟩ := hv
    refine ⟨rfl, by rw [flat_set he l hx hy hj, List.length_set]; exact h.1, .inr ⟨g, c, cur.setIfInBounds (k * sz + j) u, rfl, hb, block_setCell u hg, hc, hm, by simpa using hs, ?_⟩⟩
    rw [Array.toList_setIfInBounds, List.take_set, ht, flat_set he l hx hy hj]

theorem flat_same {α : Type} {enc : α → List Value} {sz : Nat} (he : ∀ a, (enc a).length = sz) {l : List α} {k : Nat} {x y : α} (hx : l[k]? = some x) (hy : enc y = enc x) : (l.set k y).flatMap enc = l.flatMap enc := by
  obtain ⟨A, B, _, e1, e2⟩ := flat_cut he l hx y
  rw [e1, e2, hy]

theorem one_cell (c : Int × Int) : ∀ u ∈ encCell c, u.oneCell' = true := by
  intro u hu
  simp [encCell] at hu
  rcases hu with rfl | rfl <;> rfl

set_option maxHeartbeats 1000000 in
theorem write_any (h : TlAt w base b m t tw ts ev) {n : Nat} {x : Th × Value} (hx : ts[n]? = some x) {k i : Nat} (hok : ThOk x.1 k i) (hph : x.1.phase = 1) (hlen : tw.evs.length < 70000) (a v : Int) :
    Calls Try.prog 28 #[.pointer (some ⟨b, 0, none⟩), .int .i64 (n : Int), .int .i64 a, .int .i64 v] w (TlDone base b m t (tw.write n x.1 a v) w) := by
  have c1 := h.wcell 18 _ rfl
  have hn : n < ts.length := (List.getElem?_eq_some_iff.1 hx).1
  obtain ⟨ao, c, hv, hcell⟩ := h.logcell hx
  have hown : w.ownsRow base 42 2 x.2 x.1.log.length (x.1.log.flatMap encCell) := by
    rcases (h.log n x hx).2 with ⟨_, h2⟩ | ⟨h1, _⟩
    · exact h2
    · rw [hph] at h1; exact absurd h1 (by decide)
  have H := hidI h
  have HX := hidI hx
  have HOK := hidI hok
  have HL := hidI hlen
  have HV := hidI hv
  have HC := hidI hcell
  have HO := hidI hown
  have HPH := hidI hph
  obtain ⟨i0, hi, hz0, hz1, hz2⟩ := info_parts cellInfo
  have HI := hidI hi
  have HZ0 := hidI hz0
  have HZ1 := hidI hz1
  have HZ2 := hidI hz2
  clear h hx hok hlen hv hcell hown hph hi hz0 hz1 hz2
  go_enter Try.func28, Try.ntmps28
  go_wp2_with fail
  refine (find_any H.out HX.out a HOK.out.len).mono ?_
  rintro e w1 ⟨rfl, ⟨hp, g, o, c', hv', rfl⟩ | ⟨hp, rfl⟩⟩
  · have HR := hidI (show tw.write n x.1 a v = { tw with ths := tw.ths.set n { x.1 with log := x.1.log.set (place x.1.log a) (a, v) }, evs := tw.evs ++ [⟨n, 3, a, v⟩] } from by unfold TW.write; rw [if_pos hp])
    obtain ⟨e, he, hea⟩ := place_at hp
    have hov := HO.out
    rw [hv'] at hov
    obtain ⟨rfl, hset⟩ := ownsRow_set (y := (a, v)) (j := 1) (u := .int .i64 v) encCell_len hov he (by rw [← hea]; rfl) (by decide)
    have d1 : w1.cell? ⟨g, 0 + place x.1.log a * 2 + 1, none⟩ = some (.int .i64 e.2) := by
      obtain ⟨g', o', e1, _, hc⟩ := HC.out (by omega)
      rw [HV.out] at hv'
      simp only [Value.slice.injEq] at hv'
      rw [e1] at hv'
      simp only [Option.some.injEq, Addr.mk.injEq, and_true] at hv'
      obtain ⟨⟨rfl, rfl⟩, -⟩ := hv'
      exact (hc _ e he).2
    have f1 : w1.frozen? ⟨g, 0 + place x.1.log a * 2 + 1, none⟩ = false := by
      obtain ⟨g', cur, e1, _, hg, _⟩ := ownsRow_some hov (by omega)
      simp only [Option.some.injEq, Addr.mk.injEq, and_true] at e1
      rw [e1]
      exact free_of_block hg
    have hgl := ownLt hov (g := g) rfl
    have h1 := H.out.thread (w' := w1.setCell ⟨g, place x.1.log a * 2 + 1, none⟩ (.int .i64 v)) HX.out ({ x.1 with log := x.1.log.set (place x.1.log a) (a, v) }, x.2)
      ((Chg.refl _ w1).setCell (p := ⟨g, place x.1.log a * 2 + 1, none⟩) (.inl (.inr (by rw [hv']; rfl))) _)
      (by rw [flat_same encTh_len (y := ({ x.1 with log := x.1.log.set (place x.1.log a) (a, v) }, x.2)) HX.out rfl, Below.heap_setCell _ _ _ _ (fun e => (H.out.lg_ne n g x HX.out (by rw [hv']; rfl)).2.2.1 e.symm)]; exact H.out.ths)
      ⟨fun g' hg' => by
        rw [hv'] at hg'
        simp only [Value.ownBlock, Option.some.injEq] at hg'
        subst hg'
        exact ⟨hgl.1, by simpa [World.setCell] using hgl.2⟩, .inl ⟨by simp only [HPH.out]; decide, by rw [← hv'] at hset; simpa using hset⟩⟩
      (fun g' hg' => .inl hg')
    have HB := hidI hgl.1
    have H1 := hidI h1
    simp only [Nat.zero_add] at d1 f1
    clear h1 hset hov hv' he hea hp hgl
    go_wp2_with fail
    refine (tell_any H1.out HL.out ⟨n, 3, a, v⟩).mono ?_
    rintro r w2 ⟨rfl, ⟨ev', h1⟩, hc1⟩
    have H2 := hidI h1
    have HC1 := hidI hc1
    clear h1 hc1
    go_wp2_with fail
    go_end0
    rw [HR.out]
    refine ⟨rfl, ⟨_, ev', H2.out⟩, ?_⟩
    refine Chg.below ?_ H1.out.base_le HC1.out H1.out.ev_base
    exact Chg.below (S := fun k => k = g) (Below.refl base w1) H.out.base_le ((Chg.refl (fun k => k = g) w1).setCell (p := ⟨g, place x.1.log a * 2 + 1, none⟩) (.inl rfl) _) (fun k hk => by rw [hk]; exact HB.out)
  · have hlt : x.1.log.length ≤ 64 := HOK.out.len
    have c2 : w1.cell? ⟨t, n * 22 + 3, none⟩ = some (.slice ao x.1.log.length c) := by rw [← HV.out]; exact H.out.cell HX.out 3 _ rfl
    by_cases h64 : x.1.log.length < 64
    · have HR := hidI (show tw.write n x.1 a v = { tw with ths := tw.ths.set n { x.1 with log := x.1.log ++ [(a, v)] }, evs := tw.evs ++ [⟨n, 3, a, v⟩] } from by unfold TW.write; rw [if_neg (by omega), if_pos h64])
      have HOV := HO.out
      rw [HV.out] at HOV
      have HOV := hidI HOV
      have HLT := hidI hlt
      have hi := HI.out
      have hz0 := HZ0.out
      have hz1 := HZ1.out
      have hz2 := HZ2.out
      have hb64 : ((x.1.log.length : Int) < 64) := by omega
      clear hp hlt
      go_wp2_with (at_builtin; refine wpList_append_d _ rfl _ _ 38 rfl base 42 i0 _ 2 16 Try.underlying38 hi hz0 hz1 hz2 rfl (by decide) _ _ _ rfl (ownsRow_chg HOV.out ((Chg.refl (fun _ => False) w1).alloc _) (fun _ _ => id)) ⟨w1.heap.size, 0, none⟩ 1 1 (encCell (a, v)) rfl rfl ?c1 ?c2 ?c3 ?c4 ?c5 ?_)
      case c1 => exact news_at (block_new _ _)
      case c2 => exact one_cell _
      case c3 => have := HLT.out; unfold maxLen; omega
      case c4 => have := HLT.out; omega
      case c5 => have := H.out.base_le; simp; omega
      intro ao' cp w2 hown hfrom hgrown
      have hbl := HOV.out
      have hc := Chg.grown (S := fun k => x.2.ownBlock = some k) ((Chg.refl _ w1).alloc (.cells (encCell (a, v)).toArray 42)) hgrown (fun k hk => .inl (by rw [HV.out]; exact hk))
      have hb1 := chgblk hc H.out.ths (fun hk => (H.out.lg_ne n t x HX.out hk).2.2.1 rfl)
      have f1 := free_of_block (o := n * 22 + 3) hb1
      have f2 : w2.cell? ⟨t, n * 22 + 3, none⟩ = some x.2 := cell_of_block hb1 (by rw [List.getElem?_toArray]; exact flat_at encTh_len ts HX.out 3 _ rfl)
      have hne : ∀ g, (Value.slice ao' (x.1.log.length + 1) cp).ownBlock = some g → x.2.ownBlock = some g ∨ w1.heap.size ≤ g := fun g hg => by
        rcases hfrom g hg with e | e
        · exact .inl (by rw [HV.out]; exact e)
        · exact .inr (by omega)
      have HNE := hidI hne
      have HB := hidI hb1
      have HC2 := hidI hc
      have HO2 := hidI hown
      clear hb1 hc hown hfrom hgrown hne hbl hi hz0 hz1 hz2 c2
      have hchg : Chg (fun k => k = t ∨ x.2.ownBlock = some k) w1 (w2.setCell ⟨t, n * 22 + 3, none⟩ (.slice ao' (x.1.log.length + 1) cp)) :=
        (Chg.then_ (S := fun k => k = t ∨ x.2.ownBlock = some k) (Chg.refl _ w1) HC2.out (fun k _ hk => .inr hk)).setCell (p := ⟨t, n * 22 + 3, none⟩) (.inl (.inl rfl)) _
      have hbt : ∀ g, (Value.slice ao' (x.1.log.length + 1) cp).ownBlock = some g → g ≠ t := fun g hg e => by
        rcases HNE.out g hg with h1 | h1
        · exact (H.out.lg_ne n g x HX.out h1).2.2.1 e
        · have := H.out.tlt; omega
      have hown3 : (w2.setCell ⟨t, n * 22 + 3, none⟩ (.slice ao' (x.1.log.length + 1) cp)).ownsRow base 42 2 (.slice ao' (x.1.log.length + 1) cp) (x.1.log.length + 1) (x.1.log.flatMap encCell ++ encCell (a, v)) :=
        ownsRow_keep HO2.out fun g hg hlt => Below.heap_setCell _ _ _ _ (hbt g hg)
      have h1 := H.out.thread (w' := w2.setCell ⟨t, n * 22 + 3, none⟩ (.slice ao' (x.1.log.length + 1) cp)) HX.out ({ x.1 with log := x.1.log ++ [(a, v)] }, .slice ao' (x.1.log.length + 1) cp) hchg
        (by rw [block_setCell _ HB.out, flat_set encTh_len (y := ({ x.1 with log := x.1.log ++ [(a, v)] }, .slice ao' (x.1.log.length + 1) cp)) (j := 3) (u := .slice ao' (x.1.log.length + 1) cp) ts HX.out rfl (by decide)]; simp)
        ⟨fun g hg => ownLt hown3 hg, .inl ⟨by simp only [HPH.out]; decide, by simp only [List.length_append, List.length_cons, List.length_nil, flat_snoc]; exact hown3⟩⟩ HNE.out
      have HCH := hidI hchg
      have H1 := hidI h1
      clear h1 hown3 hbt hchg
      go_wp2_with fail
      refine (tell_any H1.out HL.out ⟨n, 3, a, v⟩).mono ?_
      rintro r w3 ⟨rfl, ⟨ev', h1⟩, hc1⟩
      have H2 := hidI h1
      have HC1 := hidI hc1
      clear h1 hc1
      go_wp2_with fail
      go_end0
      rw [HR.out]
      refine ⟨rfl, ⟨_, ev', H2.out⟩, ?_⟩
      refine Chg.below ?_ H1.out.base_le HC1.out H1.out.ev_base
      exact HCH.out.to_below H.out.base_le (fun k hk => by
        rcases hk with rfl | hk
        · exact H.out.lt
        · exact ((H.out.log n x HX.out).1 k hk).1)
    · have HR := hidI (show tw.write n x.1 a v = tw from by unfold TW.write; rw [if_neg (by omega), if_neg h64])
      have e64 : x.1.log.length = 64 := by omega
      rw [e64] at c2
      clear hp hlt h64 e64
      go_wp2_with fail
      go_end0
      rw [HR.out]
      exact ⟨rfl, ⟨ts, ev, H.out⟩, Below.refl _ _⟩

end Go.Proofs.Ytlphjkgjcfhihaa

/- The document's Run: write. -/
import Derived.Test.YtilkpmjkiohfdaaGreatDoorTrF
namespace Go.Proofs.YtilkpmjkiohfdaaGreatDoor
open Go.RowKit
set_option linter.unusedVariables false
set_option linter.unusedSimpArgs false

variable {w w' : World} {base b m t : Nat} {tw : TW} {ts : List RX} {ev : Value}

set_option maxRecDepth 100000 in
set_option maxHeartbeats 2000000 in
theorem rwrite_any (h : RtAt w base b m t tw ts ev) {n : Nat} {x : RX} (hx : ts[n]? = some x) {k i : Nat} (hok : ThOk x.th k i) (hph : x.th.phase = 1) (hlen : tw.evs.length < 70000) (a v : Int) :
    Calls Tryz.prog 215 #[.pointer (some ⟨b, 0, none⟩), .int .i64 (n : Int), .int .i64 a, .int .i64 v] w (RtDone base b m t (tw.write n x.th a v) w) := by
  have c1 := h.wcell 18 _ rfl
  have hn : n < ts.length := (List.getElem?_eq_some_iff.1 hx).1
  obtain ⟨ao, c, hv, hcell⟩ := h.logcell hx
  have hb0 : x.back = 0 := (h.log n x hx).2.2.2.2 (by omega)
  have hlw : x.th.log = x.ws := by have := (h.log n x hx).2.2.1; rw [hb0] at this; exact this
  have hlen64 : x.ws.length ≤ 64 := by rw [← hlw]; exact hok.len
  have c3 : w.cell? ⟨t, n * 53 + 18, none⟩ = some (.slice ao x.ws.length c) := by rw [← hv]; exact h.cell hx 18 _ (encRh_18 x)
  have f3 := h.free (n * 53 + 18)
  have hown := (h.log n x hx).2.1
  obtain ⟨i0, hi, hz0, hz1, hz2⟩ := info_parts cellInfo
  have HI := hidI hi
  have HZ0 := hidI hz0
  have HZ1 := hidI hz1
  have HZ2 := hidI hz2
  have H := hidI h
  have HX := hidI hx
  have HOK := hidI hok
  have HL := hidI hlen
  have HV := hidI hv
  have HC := hidI hcell
  have HO := hidI hown
  have HB0 := hidI hb0
  have HLW := hidI hlw
  have HPH := hidI hph
  have H64 := hidI hlen64
  clear h hx hok hlen hv hcell hown hb0 hlw hph hlen64 hi hz0 hz1 hz2
  go_enter Tryz.func215, Tryz.ntmps215
  go_wp2_with fail
  go_loopw [9] (fun i w' => ∃ k : Nat, k ≤ x.ws.length ∧ i = .int .i64 (k : Int) ∧ Hid (k ≤ place x.ws a) ∧ w' = w) (fun i _ => ((x.ws.length : Int) - intOf i).toNat)
  case atStart => exact ⟨0, by omega, rfl, hidI (Nat.zero_le _), rfl⟩
  case round =>
    obtain ⟨k, hk, rfl, HP, rfl⟩ := hrel
    by_cases hlt : k < x.ws.length
    · have hcs0 := HC.out (by omega)
      obtain ⟨g, o, hao, _, hcs⟩ := hcs0
      obtain ⟨e, he⟩ := some_at hlt
      obtain ⟨d1, d2⟩ := hcs k e he
      have HE := hidI he
      clear hcs he
      have h64 : k ≤ 64 := by have := H64.out; omega
      by_cases ha : e.1 = a
      · have hpl := place_le HE.out ha
        have hkp : k = place x.ws a := by have := HP.out; omega
        have HR := hidI (show tw.write n x.th a v = { tw with ths := tw.ths.set n { x.th with log := x.ws.set k (a, v) }, evs := tw.evs ++ [⟨n, 3, a, v⟩] } from by
          unfold TW.write
          rw [HLW.out, ← hkp, if_pos hlt])
        have hov := HO.out
        rw [HV.out, hao] at hov
        obtain ⟨rfl, hset⟩ := ownsRow_set (y := (a, v)) (j := 1) (u := .int .i64 v) encCell_len hov HE.out (by rw [← ha]; rfl) (by decide)
        have f1 : wr.frozen? ⟨g, 0 + k * 2 + 1, none⟩ = false := by
          obtain ⟨g', cur, e1, _, hg, _⟩ := ownsRow_some hov (by omega)
          simp only [Option.some.injEq, Addr.mk.injEq, and_true] at e1
          rw [e1]
          exact free_of_block hg
        have hgl := rowLt hov (g := g) rfl
        have hob : x.dv.ownBlock = some g := by rw [HV.out, hao]; rfl
        have h1 := H.out.thread (w' := wr.setCell ⟨g, k * 2 + 1, none⟩ (.int .i64 v)) HX.out { x with th := { x.th with log := x.ws.set k (a, v) }, ws := x.ws.set k (a, v) }
          ((Chg.refl _ wr).setCell (p := ⟨g, k * 2 + 1, none⟩) (.inl (.inr hob)) _)
          (by rw [flat_same encRh_len (y := { x with th := { x.th with log := x.ws.set k (a, v) }, ws := x.ws.set k (a, v) }) HX.out (encRh_same x _ rfl rfl rfl rfl rfl rfl rfl rfl), Below.heap_setCell _ _ _ _ (fun e => (H.out.lg_ne n g x HX.out hob).2.2.1 e.symm)]; exact H.out.ths)
          ⟨fun g' hg' => by
            have e2 : x.dv.ownBlock = some g' := hg'
            rw [hob] at e2
            simp only [Option.some.injEq] at e2
            subst e2
            exact ⟨hgl.1, by simpa [World.setCell] using hgl.2⟩, by rw [← hao, ← HV.out] at hset; simpa using hset, by rw [HB0.out]; rfl, ⟨by rw [HB0.out]; omega, by rw [List.length_set]; exact H64.out⟩, fun _ => HB0.out⟩
          (fun g' hg' => .inl hg')
        have HB := hidI hgl.1
        have H1 := hidI h1
        subst hao
        simp only [Nat.zero_add] at d1 d2 f1
        have hb : (e.1 == a) = true := by simpa using ha
        clear h1 hset hov ha hpl hkp hgl hob
        go_wp2_with fail
        refine (rtell_any H1.out HL.out ⟨n, 3, a, v⟩).mono ?_
        rintro r w2 ⟨rfl, ⟨ev', h1⟩, hc1⟩
        have H2 := hidI h1
        have HC1 := hidI hc1
        clear h1 hc1
        go_wp2_with fail
        go_end0
        rw [HR.out]
        refine ⟨rfl, ⟨_, ev', H2.out⟩, ?_⟩
        refine Chg.below ?_ H1.out.base_le HC1.out H1.out.ev_base
        exact Chg.below (S := fun k => k = g) (Below.refl base wr) H.out.base_le ((Chg.refl (fun k => k = g) wr).setCell (p := ⟨g, k * 2 + 1, none⟩) (.inl rfl) _) (fun k hk => by rw [hk]; exact HB.out)
      · have hb : (e.1 == a) = false := by simpa using ha
        have HN := hidI (show k + 1 ≤ place x.ws a from by
          have := HP.out
          rcases Nat.lt_or_ge k (place x.ws a) with h | h
          · exact h
          · exfalso
            have hkp : k = place x.ws a := by omega
            obtain ⟨c', h1, h2⟩ := place_at (l := x.ws) (a := a) (by omega)
            rw [← hkp, HE.out] at h1
            cases h1
            exact ha h2)
        subst hao
        clear ha d2
        go_wp2_with fail
        exact ⟨⟨k + 1, by omega, by go_num, HN, trivial⟩, by simp [intOf]; omega⟩
    · obtain rfl : k = x.ws.length := by omega
      by_cases h64 : x.ws.length < 64
      · have HR := hidI (show tw.write n x.th a v = { tw with ths := tw.ths.set n { x.th with log := x.ws ++ [(a, v)] }, evs := tw.evs ++ [⟨n, 3, a, v⟩] } from by
          have := HP.out
          unfold TW.write; rw [HLW.out, if_neg (by omega), if_pos h64])
        have HOV := HO.out
        rw [HV.out] at HOV
        have HOV := hidI HOV
        have hi := HI.out
        have hz0 := HZ0.out
        have hz1 := HZ1.out
        have hz2 := HZ2.out
        have hb64 : ((x.ws.length : Int) < 64) := by omega
        go_wp2_with (at_builtin; refine wpList_append_d _ rfl _ _ 69 rfl base 76 i0 _ 2 16 Tryz.underlying69 hi hz0 hz1 hz2 rfl (by decide) _ _ _ rfl (ownsRow_chg HOV.out ((Chg.refl (fun _ => False) wr).alloc _) (fun _ _ => id)) ⟨wr.heap.size, 0, none⟩ 1 1 (encCell (a, v)) rfl rfl ?c1 ?c2 ?c3 ?c4 ?c5 ?_)
        case c1 => exact fun j u h => h
        case c2 => exact one_cell _
        case c3 => have := H64.out; unfold maxLen; omega
        case c4 => have := H64.out; omega
        case c5 => have := H.out.base_le; simp; omega
        intro ao' cp w2 hown hfrom hgrown
        have hc := Chg.grown (S := fun k => x.dv.ownBlock = some k) ((Chg.refl _ wr).alloc (.cells (encCell (a, v)).toArray 76)) hgrown (fun k hk => .inl (by rw [HV.out]; exact hk))
        have hb1 := chgblk hc H.out.ths (fun hk => (H.out.lg_ne n t x HX.out hk).2.2.1 rfl)
        have f1 := free_of_block (o := n * 53 + 18) hb1
        have f2 : w2.cell? ⟨t, n * 53 + 18, none⟩ = some x.dv := cell_of_block hb1 (by rw [List.getElem?_toArray]; exact flat_at encRh_len ts HX.out 18 _ (encRh_18 x))
        have hne : ∀ g, (Value.slice ao' (x.ws.length + 1) cp).ownBlock = some g → x.dv.ownBlock = some g ∨ wr.heap.size ≤ g := fun g hg => by
          rcases hfrom g hg with e | e
          · exact .inl (by rw [HV.out]; exact e)
          · exact .inr (by omega)
        have HNE := hidI hne
        have HB := hidI hb1
        have HC2 := hidI hc
        have HO2 := hidI hown
        clear hb1 hc hown hfrom hgrown hne hi hz0 hz1 hz2
        have hchg : Chg (fun k => k = t ∨ x.dv.ownBlock = some k) wr (w2.setCell ⟨t, n * 53 + 18, none⟩ (.slice ao' (x.ws.length + 1) cp)) :=
          (Chg.then_ (S := fun k => k = t ∨ x.dv.ownBlock = some k) (Chg.refl _ wr) HC2.out (fun k _ hk => .inr hk)).setCell (p := ⟨t, n * 53 + 18, none⟩) (.inl (.inl rfl)) _
        have hbt : ∀ g, (Value.slice ao' (x.ws.length + 1) cp).ownBlock = some g → g ≠ t := fun g hg e => by
          rcases HNE.out g hg with h1 | h1
          · exact (H.out.lg_ne n g x HX.out h1).2.2.1 e
          · have := H.out.tlt; omega
        have hown3 : (w2.setCell ⟨t, n * 53 + 18, none⟩ (.slice ao' (x.ws.length + 1) cp)).ownsRow base 76 2 (.slice ao' (x.ws.length + 1) cp) (x.ws.length + 1) (x.ws.flatMap encCell ++ encCell (a, v)) :=
          ownRow_keep HO2.out fun g hg hlt => Below.heap_setCell _ _ _ _ (hbt g hg)
        have h1 := H.out.thread (w' := w2.setCell ⟨t, n * 53 + 18, none⟩ (.slice ao' (x.ws.length + 1) cp)) HX.out { x with th := { x.th with log := x.ws ++ [(a, v)] }, ws := x.ws ++ [(a, v)], dv := .slice ao' (x.ws.length + 1) cp } hchg
          (by rw [block_setCell _ HB.out, flat_set encRh_len (y := { x with th := { x.th with log := x.ws ++ [(a, v)] }, ws := x.ws ++ [(a, v)], dv := .slice ao' (x.ws.length + 1) cp }) (j := 18) (u := .slice ao' (x.ws.length + 1) cp) ts HX.out (encRh_dv x _ rfl rfl rfl rfl rfl rfl rfl) (by decide)]; simp)
          ⟨fun g hg => rowLt hown3 hg, by simp only [List.length_append, List.length_cons, List.length_nil, flat_snoc]; exact hown3, by rw [HB0.out]; rfl, ⟨by rw [HB0.out]; omega, by rw [List.length_append]; simp; omega⟩, fun _ => HB0.out⟩ HNE.out
        have HCH := hidI hchg
        have H1 := hidI h1
        clear h1 hown3 hbt hchg c3
        go_wp2_with fail
        refine (rtell_any H1.out HL.out ⟨n, 3, a, v⟩).mono ?_
        rintro r w3 ⟨rfl, ⟨ev', h1⟩, hc1⟩
        have H2 := hidI h1
        have HC1 := hidI hc1
        clear h1 hc1
        go_wp2_with fail
        go_end0
        rw [HR.out]
        refine ⟨rfl, ⟨_, ev', H2.out⟩, ?_⟩
        refine Chg.below ?_ H1.out.base_le HC1.out H1.out.ev_base
        exact HCH.out.to_below H.out.base_le (fun k hk => by
          rcases hk with rfl | hk
          · exact H.out.lt
          · exact ((H.out.log n x HX.out).1 k hk).1)
      · have HR := hidI (show tw.write n x.th a v = tw from by
          have := HP.out
          unfold TW.write; rw [HLW.out, if_neg (by omega), if_neg h64])
        have e64 : x.ws.length = 64 := by have := H64.out; omega
        rw [e64] at c3
        clear h64
        go_wp2_with fail
        go_end0
        rw [HR.out]
        exact ⟨rfl, ⟨ts, ev, H.out⟩, Below.refl _ _⟩
end Go.Proofs.YtilkpmjkiohfdaaGreatDoor

/- Package tl2: the contract of read. -/
import Derived.Test.YtlphjkgjcfhihaaTlF
namespace Go.Proofs.Ytlphjkgjcfhihaa
set_option linter.unusedVariables false
set_option linter.unusedSimpArgs false
open Go.RowKit

variable {w w' : World} {base b m t : Nat} {tw : TW} {ts : List (Th × Value)} {ev : Value}

/-- one cell of a thread is written; its log stays -/
theorem TlAt.poke (h : TlAt w base b m t tw ts ev) {n : Nat} {x : Th × Value} (hx : ts[n]? = some x) (y : Th) (hl : y.log = x.1.log) (hp : x.1.phase = 3 → y.phase = 3) (j : Nat) (u : Value) (hj : j < 22) (he : encTh (y, x.2) = (encTh x).set j u) :
    TlAt (w.setCell ⟨t, n * 22 + j, none⟩ u) base b m t { tw with ths := tw.ths.set n y } (ts.set n (y, x.2)) ev := by
  have hc : Chg (fun k => k = t ∨ x.2.ownBlock = some k) w (w.setCell ⟨t, n * 22 + j, none⟩ u) := (Chg.refl _ w).setCell (p := ⟨t, n * 22 + j, none⟩) (.inl (.inl rfl)) _
  refine h.thread hx (y, x.2) hc ?_ ?_ (fun g hg => .inl hg)
  · rw [block_setCell u h.ths, flat_set encTh_len ts hx he hj]
    simp
  · have hk := (h.log n x hx).keep (w' := w.setCell ⟨t, n * 22 + j, none⟩ u) hc.size fun g hg => Below.heap_setCell _ _ _ _ fun e => (h.lg_ne n g x hx hg).2.2.1 e
    refine ⟨hk.1, ?_⟩
    simp only [hl]
    by_cases h3 : y.phase = 3
    · exact .inr ⟨h3, hk.rd⟩
    · rcases hk.2 with ⟨h1, h2⟩ | ⟨h1, h2⟩
      · exact .inl ⟨h3, h2⟩
      · exact absurd (hp h1) h3

theorem set_self_at {α : Type} {l : List α} {n : Nat} {x : α} (h : l[n]? = some x) (y : α) : (l.set n y)[n]? = some y := by
  rw [List.getElem?_set_self (List.getElem?_eq_some_iff.1 h).1]

theorem memcell (h : TlAt w base b m t tw ts ev) {k : Nat} (hk : k < tw.mem.length) : w.cell? ⟨m, k, none⟩ = some (.int .i64 (tw.mem.getD k 0)) :=
  cell_of_block h.mem (by simp [hk])

theorem TlAt.th_at (h : TlAt w base b m t tw ts ev) {n : Nat} {x : Th × Value} (hx : ts[n]? = some x) : tw.ths[n]? = some x.1 := by rw [h.same]; simp [hx]

set_option maxHeartbeats 1000000 in
theorem read_any (h : TlAt w base b m t tw ts ev) {n : Nat} {x : Th × Value} (hx : ts[n]? = some x) {k i : Nat} (hok : ThOk x.1 k i) (hlen : tw.evs.length < 70000) (a : Nat) (ha : a < tw.mem.length) :
    Calls Try.prog 27 #[.pointer (some ⟨b, 0, none⟩), .int .i64 (n : Int), .int .i64 (a : Int)] w (TlDone base b m t (tw.read n x.1 a) w) := by
  have c1 := h.wcell 18 _ rfl
  have hn : n < ts.length := (List.getElem?_eq_some_iff.1 hx).1
  obtain ⟨ao, c, hv, hcell⟩ := h.logcell hx
  have H := hidI h
  have HX := hidI hx
  have HOK := hidI hok
  have HL := hidI hlen
  have HV := hidI hv
  have HC := hidI hcell
  have HA := hidI ha
  clear h hx hok hlen hv hcell ha
  go_enter Try.func27, Try.ntmps27
  go_wp2_with fail
  refine (find_any H.out HX.out (a : Int) HOK.out.len).mono ?_
  rintro e w1 ⟨rfl, ⟨hp, g, o, c', hv', rfl⟩ | ⟨hp, rfl⟩⟩
  · obtain ⟨e, he, hea⟩ := place_at hp
    have hr : tw.read n x.1 a = { tw with evs := tw.evs ++ [⟨n, 2, a, e.2⟩] } := by unfold TW.read; rw [he]
    have HR := hidI hr
    have d1 : w1.cell? ⟨g, o + place x.1.log a * 2 + 1, none⟩ = some (.int .i64 e.2) := by
      obtain ⟨g', o', e1, _, hc⟩ := HC.out (by omega)
      rw [HV.out] at hv'
      simp only [Value.slice.injEq] at hv'
      rw [e1] at hv'
      simp only [Option.some.injEq, Addr.mk.injEq, and_true] at hv'
      obtain ⟨⟨rfl, rfl⟩, -⟩ := hv'
      exact (hc _ e he).2
    clear hp he hea hr hv'
    go_wp2_with fail
    refine (tell_any H.out HL.out ⟨n, 2, a, e.2⟩).mono ?_
    rintro r w2 ⟨rfl, ⟨ev', h1⟩, hc1⟩
    have H1 := hidI h1
    have HC1 := hidI hc1
    clear h1 hc1
    go_wp2_with fail
    go_end0
    rw [HR.out]
    exact ⟨rfl, ⟨ts, ev', H1.out⟩, HC1.out.to_below H.out.base_le H.out.ev_base⟩
  · have hpl : x.1.log[place x.1.log a]? = none := List.getElem?_eq_none hp
    go_wp2_with fail
    refine (stripe_any _).mono ?_
    rintro r w2 ⟨rfl, rfl⟩
    go_wp2_with fail
    refine (stale_any H.out HX.out HOK.out.hd (stripeN_lt _)).mono ?_
    rintro r w3 ⟨rfl, rfl⟩
    cases hst : stale tw.locks x.1 (stripeN a) with
    | true =>
      have HR := hidI (show tw.read n x.1 a = tw.abort n x.1 from by unfold TW.read; rw [hpl]; simp only [hst, if_true])
      clear hst hpl hp
      go_wp2_with fail
      refine (abort_any H.out HX.out HOK.out.hd HL.out).mono ?_
      rintro r w4 ⟨rfl, hts, hb⟩
      have HT := hidI hts
      have HB := hidI hb
      clear hts hb
      go_wp2_with fail
      go_end0
      rw [HR.out]
      exact ⟨rfl, HT.out, HB.out⟩
    | false =>
      have HR := hidI (show tw.read n x.1 a = { tw with ths := tw.ths.set n { x.1 with reads := x.1.reads ||| 1 <<< stripeN a }, evs := tw.evs ++ [⟨n, 2, a, tw.mem.getD a 0⟩] } from by
        unfold TW.read; rw [hpl]; simp only [hst, Bool.false_eq_true, if_false, Int.toNat_natCast])
      have c2 : w3.cell? ⟨t, n * 22 + 2, none⟩ = some (.int .u16 x.1.reads) := H.out.cell HX.out 2 _ rfl
      have f2 := H.out.free (n * 22 + 2)
      have hs := stripeN_lt a
      have HO := hidI (or_bit HOK.out.rd hs)
      generalize stripeN a = s at *
      clear hst hpl hp
      go_wp2_with fail
      go_region
      rw [HO.out]
      have h1 := (H.out.poke HX.out { x.1 with reads := x.1.reads ||| 1 <<< s } rfl (fun e => e) 2 (.int .u16 ((x.1.reads ||| 1 <<< s : Nat) : Int)) (by decide) rfl).drew
      have c3 := h1.wcell 0 _ rfl
      have c4 : (w3.setCell ⟨t, n * 22 + 2, none⟩ (.int .u16 ((x.1.reads ||| 1 <<< s : Nat) : Int))).drew.cell? ⟨m, a, none⟩ = some (.int .i64 (tw.mem.getD a 0)) := memcell h1 HA.out
      generalize tw.mem.getD a 0 = mv at c4 HR
      have h5 := HA.out
      have H1 := hidI h1
      clear h1
      simp only at c3
      go_wp2_with fail
      refine (tell_any H1.out HL.out ⟨n, 2, a, mv⟩).mono ?_
      rintro r w4 ⟨rfl, ⟨ev', h2⟩, hc2⟩
      have H2 := hidI h2
      have HC2 := hidI hc2
      clear h2 hc2
      go_wp2_with fail
      go_end0
      rw [HR.out]
      refine ⟨rfl, ⟨_, ev', H2.out⟩, ?_⟩
      refine Chg.below ?_ H1.out.base_le HC2.out H1.out.ev_base
      exact Chg.below (S := fun k => k = t) (Below.refl base w3) H.out.base_le (((Chg.refl (fun k => k = t) w3).setCell (p := ⟨t, n * 22 + 2, none⟩) (.inl rfl) _).drew) (fun k hk => by rw [hk]; exact H.out.lt)

end Go.Proofs.Ytlphjkgjcfhihaa

/- The document's Of. -/
import Derived.Test.YtlphjkgjcfhihaaHistRC
namespace Go.Proofs.Ytlphjkgjcfhihaa
open Go.RowKit
set_option linter.unusedVariables false
set_option linter.unusedSimpArgs false

theorem rtake_any {w : World} {base bs : Nat} {v : Value} {ps : List (Att × Value)} {s s' : HS} {x : Ev} {i : Nat} (h : HeldR w base bs v ps s) (hs : stepH s x i = some s') (hok : HOk s i) (hdl : ∀ (j : Nat) p, ps[j]? = some p → p.1.done.length ≤ 262144) (hlen : ps.length ≤ 262144) (hbase : base ≤ w.heap.size) :
    Calls Try.prog 19 #[.pointer (some ⟨bs, 0, none⟩), v, evV x, .int .i64 i] w (RTake base bs v ps s' w) := by
  unfold stepH at hs
  split at hs
  · cases hs
  rename_i h1
  split at hs
  · cases hs
  rename_i h2
  obtain ⟨th, k, a, b⟩ := x
  simp only at h1 h2 hs ⊢
  obtain ⟨t, rfl⟩ : ∃ t : Nat, th = t := ⟨th.toNat, by omega⟩
  have ht : t < 4 := by omega
  rw [Int.toNat_natCast] at hs
  cases ho : s.opn t with
  | none =>
    rw [ho] at hs
    simp only at hs
    split at hs
    · rename_i hk; subst hk; cases hs
      exact rtk_begin h t a b i ht ho hlen hbase
    · split at hs
      · rename_i hk; subst hk; cases hs
        exact rtk_out h t a b i ht
      · split at hs
        · rename_i hk; cases hs
          rcases hk with rfl | rfl
          · exact rtk_halt h t a b i ht
          · exact rtk_trap0 h t a b i ht ho
        · cases hs
  | some j =>
    rw [ho] at hs
    simp only at hs
    obtain ⟨q, hq, -, -⟩ := hok.opn t j ho
    obtain ⟨p, hp⟩ : ∃ p, ps[j]? = some p := some_at (by
      have h9 := congrArg List.length h.fst
      rw [List.length_map] at h9
      have := (List.getElem?_eq_some_iff.1 hq).1
      omega)
    split at hs
    · rename_i hk; cases hs
      exact rtk_more h t k j p a b i ht hk ho hp (hdl j p hp) hlen hbase
    · split at hs
      · rename_i hk; subst hk; cases hs
        exact rtk_close7 h t j p a b i ht ho hp hlen
      · split at hs
        · rename_i hk; subst hk; cases hs
          exact rtk_close8 h t j p a b i ht ho hp hlen
        · split at hs
          · rename_i hk; subst hk; cases hs
            exact rtk_close11 h t j p a b i ht ho hp hlen
          · cases hs

theorem OfU.no {evs : List Ev} {k : Nat} {w w' : World} (h : runH evs 0 HS.init = .inr k) (hb : Below w.heap.size w w') : OfU evs w (.returned (.tuple #[.slice none 0 0, .int .i64 (k : Int), .int .i64 15])) w' := OfU.of (OfPost.no h hb)

set_option maxRecDepth 100000 in
set_option maxHeartbeats 4000000 in
theorem rof_any {w : World} {v : Value} {evs : List Ev} (h : RdT encEv w 4 v evs) (hl : evs.length ≤ 2 ^ 18) :
    Calls Try.prog 7 #[v] w (OfU evs w) := by
  obtain ⟨ao, cap, rfl⟩ := Rd.shape h
  have HRD := hidI h
  clear h
  have hl1 : ¬ ((evs.length : Int) > 1048576) := by omega
  go_enter Try.func7, Try.ntmps7
  go_wp2_with fail
  have HS0 : Hid (HeldR (w.alloc (.cells (encStand HS.init).toArray 63)) (w.heap.size + 1) w.heap.size (.slice none 0 0) [] HS.init) := hidI ⟨block_new _ _, rfl, World.ownsRow_nil _ _ _ _, fun j p hp => by simp at hp, by omega, fun j g p hp => by simp at hp, fun i j g p q _ hp => by simp at hp⟩
  go_loopw [7, 6] (fun i v wr => ∃ (k : Nat) (st : HS) (ps : List (Att × Value)), k ≤ evs.length ∧ i = .int .i64 (k : Int) ∧ Hid (runH (evs.take k) 0 HS.init = .inl st) ∧ Hid (HeldR wr (w.heap.size + 1) w.heap.size v ps st) ∧ Hid (Below w.heap.size w wr)) (fun i _ _ => ((evs.length : Int) - intOf i).toNat)
  case atStart => exact ⟨0, HS.init, [], Nat.zero_le _, rfl, hidI rfl, HS0, hidI ((Below.refl _ _).alloc (Nat.le_refl _) _)⟩
  case round =>
    obtain ⟨k, st, ps, hk, rfl, HR, HH, HW⟩ := hrel
    obtain ⟨vo, vc, hv⟩ := ownsRow_shape HH.out.row
    subst hv
    clear HS0
    have HPL := hidI (show ps.length ≤ 262144 from by
      have h1 := atts_run _ HR.out
      have h2 : st.atts.length = ps.length := by rw [← HH.out.fst, List.length_map]
      simp [HS.init] at h1
      omega)
    by_cases hkl : k < evs.length
    · obtain ⟨x, hx⟩ := some_at hkl
      obtain ⟨b, off, rfl, hb, hc⟩ := RdT.at encEv_len (Rd.below HRD.out HW.out) hx
      have x0 := hc 0 _ rfl
      have x1 := hc 1 _ rfl
      have x2 := hc 2 _ rfl
      have x3 := hc 3 _ rfl
      simp only [Nat.add_zero] at x0
      have HCW := hidI hc
      clear hc
      have HX := hidI hx
      clear hx
      go_wp2_with fail
      refine (wrong_any HH.out.st x).mono ?_
      rintro e w1 ⟨rfl, hb1⟩
      have HH1 := hidI (HH.out.below hb1)
      have HW1 := hidI (HW.out.trans (hb1.mono HW.out.size))
      have y0 := cell_later hb1 x0
      have y1 := cell_later hb1 x1
      have y2 := cell_later hb1 x2
      have y3 := cell_later hb1 x3
      clear hb1 x0 x1 x2 x3
      cases hwr : wrongS st x with
      | true =>
        have HST := hidI ((wrong_none st x k).1 hwr)
        go_wp2_with fail
        go_ret3
        exact OfU.no (run_stop HR.out HX.out HST.out) HW1.out
      | false =>
        obtain ⟨st', hst⟩ : ∃ st', stepH st x k = some st' := by
          cases hq : stepH st x k with
          | none => rw [(wrong_none st x k).2 hq] at hwr; cases hwr
          | some q => exact ⟨q, rfl⟩
        have HOK := hidI (show HOk st k from by have := HOk.run _ HOk.init HR.out; simpa [List.length_take, Nat.min_eq_left hk] using this)
        have HST := hidI hst
        clear hst
        go_wp2_with fail
        refine (rtake_any HH1.out HST.out HOK.out (fun j p hp => ?_) HPL.out ?_).mono ?_
        · have h5 := total_le _ HR.out
          have h6 := done_le (s := st) (j := j) (a := p.1) (n := k) (by rw [← HH1.out.fst, List.getElem?_map, hp]; rfl) (by rw [List.length_take] at h5; omega)
          omega
        · have := HW1.out.size; have := lt_of_block HH1.out.st; omega
        rintro e w2 ⟨v2, rfl, ps2, hh2, hc2, ho2⟩
        have HH2 := hidI hh2
        have HW2 := hidI (Chg.below HW1.out HW1.out.size hc2 (fun j hj => by
          rcases hj with rfl | hj | ⟨i, p, hp, hj⟩
          · exact Nat.le_refl _
          · have := rowLt HH1.out.row hj; omega
          · have := rowLt (HH1.out.own i p hp) hj; omega))
        clear hh2 hc2 ho2 y0 y1 y2 y3
        go_wp2_with fail
        exact ⟨⟨k + 1, st', ps2, by omega, by go_num, hidI (run_next HR.out HX.out HST.out), HH2, HW2⟩, by simp [intOf]; omega⟩
    · obtain rfl : k = evs.length := by omega
      go_wp2_with fail
      go_ret3
      have hr := HR.out
      rw [List.take_length] at hr
      refine ⟨vo, vc, ps, ?_, ?_, ⟨ownsRow_mono HH.out.row (by omega), fun j p hp => ownsRow_mono (HH.out.own j p hp) (by omega), HH.out.ne, HH.out.lg⟩, HW.out⟩
      · rw [HH.out.fst]; unfold ofL; rw [hr]
      · unfold ofAt ofErr; rw [hr]; rfl
end Go.Proofs.Ytlphjkgjcfhihaa

/- history.Locals. -/
import Derived.Test.YtilkpmjkiohfdaaGreatDoorHistU
namespace Go.Proofs.YtilkpmjkiohfdaaGreatDoor
open Go.RowKit
set_option linter.unusedVariables false
set_option linter.unusedSimpArgs false

set_option maxRecDepth 100000 in
set_option maxHeartbeats 4000000 in
theorem locals_any {w : World} {ao : Option Addr} {cap : Nat} {evs : List Ev} (h : RdT encEv w 4 (.slice ao evs.length cap) evs) (hl : evs.length ≤ 2 ^ 18) (t : Int) :
    Calls Tryz.prog 31 #[.slice ao evs.length cap, .int .i64 t] w (LocU evs t w) := by
  obtain ⟨i0, hi, hz0, hz1, hz2⟩ := info_parts intInfo
  have HRD := hidI h
  clear h
  by_cases h1 : t < 0
  · go_enter Tryz.func31, Tryz.ntmps31
    go_wp2_with fail
    go_ret2
    exact LocU.no (if_pos (.inl h1)) (by decide) (Below.refl _ _)
  by_cases h2 : 4 ≤ t
  · go_enter Tryz.func31, Tryz.ntmps31
    go_wp2_with fail
    go_ret2
    exact LocU.no (if_pos (.inr h2)) (by decide) (Below.refl _ _)
  have HE := hidI (show locErr evs t = ofErr evs from if_neg (by omega))
  go_enter Tryz.func31, Tryz.ntmps31
  go_wp2_with fail
  refine (of_any HRD.out hl).mono ?_
  intro e w1 h
  obtain ⟨ao1, cp1, ps, -, rfl, -, hb1⟩ := OfU.of h
  have HB1 := hidI hb1
  clear h hb1
  by_cases h0 : ofErr evs = 0
  · rw [h0] at HE ⊢
    go_wp2_with fail
    go_loopw [29, 9] (fun i v wr => ∃ (k : Nat) (ao2 : Option Addr) (c2 : Nat), k ≤ evs.length ∧ i = .int .i64 (k : Int) ∧ v = .slice ao2 (locFrom (evs.take k) 0 t).length c2 ∧ Hid (wr.ownsRow w1.heap.size 3 1 (.slice ao2 (locFrom (evs.take k) 0 t).length c2) (locFrom (evs.take k) 0 t).length ((locFrom (evs.take k) 0 t).flatMap encZ)) ∧ Hid (Below w1.heap.size w1 wr)) (fun i _ _ => evs.length - (intOf i).toNat)
    case atStart => exact ⟨0, none, 0, by omega, rfl, rfl, hidI (World.ownsRow_nil _ _ _ _), hidI (Below.refl _ _)⟩
    case round =>
      obtain ⟨k, ao2, c2, hk, rfl, rfl, HO, HW⟩ := hrel
      have HWW := hidI (HB1.out.trans (HW.out.mono HB1.out.size))
      by_cases hlt : k < evs.length
      · obtain ⟨x, hx⟩ := some_at hlt
        obtain ⟨b, off, rfl, hb, hc⟩ := RdT.at encEv_len (Rd.below HRD.out HWW.out) hx
        have x0 := hc 0 _ rfl
        have x1 := hc 1 _ rfl
        have x2 := hc 2 _ rfl
        have x3 := hc 3 _ rfl
        simp only [Nat.add_zero] at x0
        have HT := hidI (show locFrom (evs.take (k + 1)) 0 t = locFrom (evs.take k) 0 t ++ (if x.th = t ∧ (x.k = 7 ∨ x.k = 9 ∨ x.k = 10 ∨ x.k = 11) then [(k : Int)] else []) from by
          rw [take_snoc hx, locFrom_snoc, List.length_take, Nat.zero_add, Nat.min_eq_left hk])
        have HLEN := hidI (show (locFrom (evs.take k) 0 t).length ≤ 262144 from by have := locFrom_len (evs.take k) t 0; rw [List.length_take] at this; omega)
        clear hc hx hb
        generalize hL : locFrom (evs.take k) 0 t = L at *
        obtain ⟨th, xk, a, b9⟩ := x
        simp only at x0 x1 x2 x3 HT
        by_cases hth : th = t
        · subst hth
          by_cases hk7 : xk = 7 ∨ xk = 9 ∨ xk = 10 ∨ xk = 11
          · rcases hk7 with rfl | rfl | rfl | rfl
            all_goals
              go_wp2_with (at_builtin; refine wpList_append_d _ rfl _ _ 22 rfl w1.heap.size 3 i0 _ 1 8 Tryz.underlying22 hi hz0 hz1 hz2 rfl (by decide) _ _ _ rfl (ownsRow_chg HO.out (((Chg.refl (fun _ => False) wr).alloc _).alloc _) (fun _ _ => id)) ⟨wr.heap.size + 1, 0, none⟩ 1 1 (encZ (k : Int)) rfl rfl ?c1 ?c2 ?c3 ?c4 ?c5 ?_)
              case c1 => exact fun j u h => h
              case c2 => intro u hu; simp [encZ] at hu; subst hu; rfl
              case c3 => have := HLEN.out; unfold maxLen; omega
              case c4 => have := HLEN.out; omega
              case c5 => have := HW.out.size; simp; omega
              intro ao3 c3 w3 hown hfrom hgrown
              have hc3 := Chg.grown (S := fun j => (Value.slice ao2 L.length c2).ownBlock = some j) (((Chg.refl _ wr).alloc _).alloc _) hgrown (fun j hj => .inl hj)
              have HB3 := hidI (hc3.below HW.out HW.out.size (fun j hj => (HO.out.lt j hj).1))
              have HO3 := hidI hown
              clear hown hfrom hgrown hc3
              go_wp2_with fail
              refine ⟨⟨k + 1, ao3, c3, by omega, by go_num, ?_, hidI ?_, HB3⟩, by simp [intOf]; omega⟩
              · rw [HT.out]; simp
              · rw [HT.out]; simp only [true_and, List.length_append]; simpa using HO3.out
          · have e7 : (xk == 7) = false := by simp; omega
            have e9 : (xk == 9) = false := by simp; omega
            have e10 : (xk == 10) = false := by simp; omega
            have e11 : (xk == 11) = false := by simp; omega
            have HT2 := HT.out
            rw [if_neg (fun q => hk7 q.2), List.append_nil] at HT2
            have HT3 := hidI HT2
            clear HT2
            go_wp2_with fail
            exact ⟨⟨k + 1, ao2, c2, by omega, by go_num, by rw [HT3.out], by rw [HT3.out]; exact hidI (ownsRow_chg HO.out ((Chg.refl (fun _ => False) wr).alloc _) (fun _ _ => id)), hidI (HW.out.alloc HW.out.size _)⟩, by simp [intOf]; omega⟩
        · have eth : (th != t) = true := by simpa using hth
          have eth2 : (th == t) = false := by simpa using hth
          have HT2 := HT.out
          rw [if_neg (fun q => hth q.1), List.append_nil] at HT2
          have HT3 := hidI HT2
          clear HT2
          go_wp2_with fail
          exact ⟨⟨k + 1, ao2, c2, by omega, by go_num, by rw [HT3.out], by rw [HT3.out]; exact hidI (ownsRow_chg HO.out ((Chg.refl (fun _ => False) wr).alloc _) (fun _ _ => id)), hidI (HW.out.alloc HW.out.size _)⟩, by simp [intOf]; omega⟩
      · obtain rfl : k = evs.length := by omega
        go_wp2_with fail
        go_ret2
        have hO := HO.out
        rw [List.take_length] at hO ⊢
        have e1 : locV evs t = locFrom evs 0 t := if_pos HE.out
        refine ⟨ao2, c2, by rw [e1, HE.out]; rfl, ?_, HWW.out⟩
        rw [e1]
        exact ownsRow_mono hO HB1.out.size
  · have h15 : ofErr evs = 15 := by
      unfold ofErr at h0 ⊢
      cases hr : runH evs 0 HS.init with
      | inl s => rw [hr] at h0; simp at h0
      | inr k => rfl
    rw [h15] at HE ⊢
    go_wp2_with fail
    go_ret2
    exact LocU.no HE.out (by decide) HB1.out

end Go.Proofs.YtilkpmjkiohfdaaGreatDoor

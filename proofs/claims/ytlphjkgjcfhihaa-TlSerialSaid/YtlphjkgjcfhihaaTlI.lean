/- Package tl2: the contract of lock. (Written by mklock.py.) -/
import Derived.Test.YtlphjkgjcfhihaaTlH
namespace Go.Proofs.Ytlphjkgjcfhihaa
set_option linter.unusedVariables false
set_option linter.unusedSimpArgs false
open Go.RowKit

variable {w w' : World} {base b m t : Nat} {tw : TW} {ts : List (Th × Value)} {ev : Value}

theorem bit_zero {h : Nat} (hh : h < 65536) (s : Nat) : (bits BinOp.and IntKind.u16 ((h : Int) / 2 ^ s) 1 == 0) = !h.testBit s := by
  have h1 := bitOf_eq hh s
  unfold bitOf at h1
  have h2 : bits BinOp.and IntKind.u16 ((h : Int) / 2 ^ s) 1 = 0 ∨ bits BinOp.and IntKind.u16 ((h : Int) / 2 ^ s) 1 = 1 := by
    unfold bits
    show IntKind.u16.wrap ((BitVec.ofInt 16 ((h : Int) / 2 ^ s) &&& BitVec.ofInt 16 1).toNat : Int) = 0 ∨ _
    have e1 : (BitVec.ofInt 16 ((h : Int) / 2 ^ s) &&& BitVec.ofInt 16 1).toNat < 2 := by
      rw [BitVec.toNat_and]
      exact Nat.lt_of_le_of_lt Nat.and_le_right (by decide)
    rcases (by omega : (BitVec.ofInt 16 ((h : Int) / 2 ^ s) &&& BitVec.ofInt 16 1).toNat = 0 ∨ (BitVec.ofInt 16 ((h : Int) / 2 ^ s) &&& BitVec.ofInt 16 1).toNat = 1) with e | e
    · left; rw [e]; rfl
    · right; show IntKind.u16.wrap ((BitVec.ofInt 16 ((h : Int) / 2 ^ s) &&& BitVec.ofInt 16 1).toNat : Int) = 1; rw [e]; rfl
  rcases h2 with e | e
  · rw [e] at h1 ⊢; rw [← h1]; rfl
  · rw [e] at h1 ⊢; rw [← h1]; rfl

theorem encTh_setOld (x : Th) (lv : Value) (v : Int) : ∀ s, s < 16 → encTh ({ x with old := upd x.old s v }, lv) = (encTh (x, lv)).set (5 + s) (.int .i64 v)
  | 0, _ => rfl | 1, _ => rfl | 2, _ => rfl | 3, _ => rfl | 4, _ => rfl | 5, _ => rfl | 6, _ => rfl | 7, _ => rfl
  | 8, _ => rfl | 9, _ => rfl | 10, _ => rfl | 11, _ => rfl | 12, _ => rfl | 13, _ => rfl | 14, _ => rfl | 15, _ => rfl
  | n + 16, h => absurd h (by omega)

theorem wanted_some {x : Th} {s : Nat} (h : wanted x = some s) : s < 16 ∧ ((needs x.log).testBit s && !x.held.testBit s) = true ∧ ∀ j, j < s → ((needs x.log).testBit j && !x.held.testBit j) = false := by
  have h1 := List.find?_range_eq_some.1 h
  refine ⟨by simpa using h1.2.1, h1.1, fun j hj => ?_⟩
  have := h1.2.2 j hj
  exact Bool.not_eq_true' _ ▸ this
theorem wanted_none {x : Th} (h : wanted x = none) : ∀ j, j < 16 → ((needs x.log).testBit j && !x.held.testBit j) = false := by
  intro j hj
  have := List.find?_range_eq_none.1 h j hj
  exact Bool.not_eq_true' _ ▸ this

set_option maxHeartbeats 2000000 in
theorem lock_taken (h : TlAt w base b m t tw ts ev) {n : Nat} {x : Th × Value} (hx : ts[n]? = some x) (hn4 : n < 4) {k i : Nat} (hok : ThOk x.1 k i) (hlen : tw.evs.length < 70000) {s : Nat} (hw : wanted x.1 = some s) (hlk : isLocked (tw.locks s) = true) :
    Calls Try.prog 42 #[.pointer (some ⟨b, 0, none⟩), .int .i64 (n : Int)] w (TlDone base b m t (tw.lock n x.1) w) := by
  obtain ⟨hs, hs1, hs2⟩ := wanted_some hw
  have HR := hidI (show tw.lock n x.1 = tw.abort n x.1 from by unfold TW.lock; rw [hw]; simp only [hlk, if_true])
  have HLK := hidI hlk
  have HS1 := hidI hs1
  have HS2 := hidI hs2
  clear hw hlk hs1 hs2
  have c1 := h.wcell 18 _ rfl
  have hn : n < ts.length := (List.getElem?_eq_some_iff.1 hx).1
  have c4 : w.cell? ⟨t, n * 22 + 4, none⟩ = some (.int .u16 x.1.held) := h.cell hx 4 _ rfl
  have g4 := fun t' => ext_cell c4 t'
  obtain ⟨l, hl, hl2, hl3⟩ := andNot_bit (needs_lt x.1.log) hok.hd
  have H := hidI h
  have HX := hidI hx
  have HOK := hidI hok
  have HL := hidI hlen
  have HN4 := hidI hn4
  have HL2 := hidI hl2
  have HL3 := hidI hl3
  clear h hx hok hlen c4 hl2 hl3 hn4
  go_enter Try.func42, Try.ntmps42
  go_wp2_with fail
  refine wp_region_grow (by kernel_rfl) (by kernel_rfl) ?_
  repeat (go_big_quiet_step ((first | (go_at_call 49; exact grow_of (needs_any (H.out.below (ext_below w _)) HX.out HOK.out.len)))))
  refine wpQuiet_nil ?_
  intro w1 hb
  have HB := hidI hb
  have H1 := hidI (H.out.below hb)
  clear hb g4 c1 hl
  go_wp2_with fail
  go_loopw [24] (fun i wr => ∃ k : Nat, k ≤ s ∧ i = .int .i64 (k : Int) ∧ wr = w1) (fun i _ => ((16 : Int) - intOf i).toNat)
  case atStart => exact ⟨0, by omega, rfl, rfl⟩
  case round =>
    obtain ⟨k, hk, rfl, rfl⟩ := hrel
    by_cases hlt : k < s
    · have hk16 : k < 16 := by omega
      have hb1 : (bits BinOp.and IntKind.u16 ((l : Int) / 2 ^ k) 1 == 0) = true := by rw [bit_zero HL2.out, HL3.out k hk16, HS2.out k hlt]; rfl
      go_wp2_with fail
      exact ⟨⟨k + 1, by omega, by go_num, trivial⟩, by simp [intOf]; omega⟩
    · obtain rfl : k = s := by omega
      have hb1 : (bits BinOp.and IntKind.u16 ((l : Int) / 2 ^ k) 1 == 0) = false := by rw [bit_zero HL2.out, HL3.out k hs, HS1.out]; rfl
      have c2 := H1.out.wcell (2 + k) _ (encW_lock _ _ _ _ _ k hs)
      go_wp2_with fail
      refine (locked_yes wr HLK.out).mono ?_
      rintro e w2 ⟨rfl, rfl⟩
      go_wp2_with fail
      refine (abort_any H1.out HX.out HOK.out.hd HL.out).mono ?_
      rintro e w3 ⟨rfl, hts, hb⟩
      have HT := hidI hts
      have HB3 := hidI hb
      clear hts hb
      go_wp2_with fail
      go_end0
      rw [HR.out]
      exact ⟨rfl, HT.out, (HB.out.mono H.out.base_le).trans HB3.out⟩

set_option maxHeartbeats 2000000 in
theorem lock_free (h : TlAt w base b m t tw ts ev) {n : Nat} {x : Th × Value} (hx : ts[n]? = some x) (hn4 : n < 4) {k i : Nat} (hok : ThOk x.1 k i) (hlen : tw.evs.length < 70000) {s : Nat} (hw : wanted x.1 = some s) (hlk : isLocked (tw.locks s) = false) :
    Calls Try.prog 42 #[.pointer (some ⟨b, 0, none⟩), .int .i64 (n : Int)] w (TlDone base b m t (tw.lock n x.1) w) := by
  obtain ⟨hs, hs1, hs2⟩ := wanted_some hw
  have HR := hidI (show tw.lock n x.1 = { tw with locks := upd tw.locks s (2 * n + 1), ths := tw.ths.set n { x.1 with held := x.1.held ||| 1 <<< s, old := upd x.1.old s (tw.locks s) } } from by unfold TW.lock; rw [hw]; simp only [hlk, Bool.false_eq_true, if_false])
  have HLK := hidI hlk
  have HS1 := hidI hs1
  have HS2 := hidI hs2
  clear hw hlk hs1 hs2
  have c1 := h.wcell 18 _ rfl
  have hn : n < ts.length := (List.getElem?_eq_some_iff.1 hx).1
  have c4 : w.cell? ⟨t, n * 22 + 4, none⟩ = some (.int .u16 x.1.held) := h.cell hx 4 _ rfl
  have g4 := fun t' => ext_cell c4 t'
  obtain ⟨l, hl, hl2, hl3⟩ := andNot_bit (needs_lt x.1.log) hok.hd
  have H := hidI h
  have HX := hidI hx
  have HOK := hidI hok
  have HL := hidI hlen
  have HN4 := hidI hn4
  have HL2 := hidI hl2
  have HL3 := hidI hl3
  clear h hx hok hlen c4 hl2 hl3 hn4
  go_enter Try.func42, Try.ntmps42
  go_wp2_with fail
  refine wp_region_grow (by kernel_rfl) (by kernel_rfl) ?_
  repeat (go_big_quiet_step ((first | (go_at_call 49; exact grow_of (needs_any (H.out.below (ext_below w _)) HX.out HOK.out.len)))))
  refine wpQuiet_nil ?_
  intro w1 hb
  have HB := hidI hb
  have H1 := hidI (H.out.below hb)
  clear hb g4 c1 hl
  go_wp2_with fail
  go_loopw [24] (fun i wr => ∃ k : Nat, k ≤ s ∧ i = .int .i64 (k : Int) ∧ wr = w1) (fun i _ => ((16 : Int) - intOf i).toNat)
  case atStart => exact ⟨0, by omega, rfl, rfl⟩
  case round =>
    obtain ⟨k, hk, rfl, rfl⟩ := hrel
    by_cases hlt : k < s
    · have hk16 : k < 16 := by omega
      have hb1 : (bits BinOp.and IntKind.u16 ((l : Int) / 2 ^ k) 1 == 0) = true := by rw [bit_zero HL2.out, HL3.out k hk16, HS2.out k hlt]; rfl
      go_wp2_with fail
      exact ⟨⟨k + 1, by omega, by go_num, trivial⟩, by simp [intOf]; omega⟩
    · obtain rfl : k = s := by omega
      have hb1 : (bits BinOp.and IntKind.u16 ((l : Int) / 2 ^ k) 1 == 0) = false := by rw [bit_zero HL2.out, HL3.out k hs, HS1.out]; rfl
      have c2 := H1.out.wcell (2 + k) _ (encW_lock _ _ _ _ _ k hs)
      have c3 : wr.cell? ⟨t, n * 22 + 4, none⟩ = some (.int .u16 x.1.held) := H1.out.cell HX.out 4 _ rfl
      have f3 := H1.out.free (n * 22 + 4)
      have HO := hidI (or_bit HOK.out.hd hs)
      go_wp2_with fail
      refine (locked_no wr HLK.out).mono ?_
      rintro e w2 ⟨rfl, rfl⟩
      go_wp2_with fail
      go_region
      rw [HO.out]
      have h2 := (H1.out.poke HX.out { x.1 with held := x.1.held ||| 1 <<< k } rfl (fun e => e) 4 (.int .u16 ((x.1.held ||| 1 <<< k : Nat) : Int)) (by decide) rfl).drew
      have hx2 := set_self_at HX.out ({ x.1 with held := x.1.held ||| 1 <<< k }, x.2)
      have c5 := h2.wcell (2 + k) _ (encW_lock _ _ _ _ _ k hs)
      have f5 := H1.out.wfree (2 + k)
      have c6 : (w2.setCell ⟨t, n * 22 + 4, none⟩ (.int .u16 ((x.1.held ||| 1 <<< k : Nat) : Int))).drew.cell? ⟨t, n * 22 + 5 + k, none⟩ = some (.int .i64 (x.1.old k)) := by rw [Nat.add_assoc]; exact h2.cell hx2 _ _ (encTh_old _ k hs)
      have f6 := H1.out.free (n * 22 + 5 + k)
      have e1 : IntKind.i64.wrap (2 * (n : Int)) = 2 * n := IntWalk.i64_in _ (by have := HN4.out; omega)
      have e2 : IntKind.i64.wrap (2 * (n : Int) + 1) = 2 * n + 1 := IntWalk.i64_in _ (by have := HN4.out; omega)
      have hbt := h2.bt
      have H2 := hidI h2
      have HX2 := hidI hx2
      clear h2 hx2
      simp only at c5
      go_wp2_with fail
      go_region
      have h2 := H1.out.poke HX.out { x.1 with held := x.1.held ||| 1 <<< k } rfl (fun e => e) 4 (.int .u16 ((x.1.held ||| 1 <<< k : Nat) : Int)) (by decide) rfl
      have h3 := h2.poke HX2.out { x.1 with held := x.1.held ||| 1 <<< k, old := upd x.1.old k (tw.locks k) } rfl (fun e => e) (5 + k) (.int .i64 (tw.locks k)) (by omega) (encTh_setOld { x.1 with held := x.1.held ||| 1 <<< k } x.2 (tw.locks k) k hs)
      rw [← Nat.add_assoc] at h3
      have hset := block_setCell (o := 2 + k) (.int .i64 (2 * (n : Int) + 1)) h3.blk
      rw [encW_set _ _ _ _ _ _ k hs] at hset
      have h4 := (h3.world ((Chg.refl (fun j => j = b) _).setCell (p := ⟨b, 2 + k, none⟩) (.inl rfl) _) _ _ hset).drew.drew
      simp only [List.set_set] at h4
      have HB1 := hidI h2.base_le
      have HT2 := hidI h2.lt
      have HB2 := hidI h3.base_le
      have H4 := hidI h4
      clear h2 h3 h4 hset c3 c5 c6 f3 f5 f6 e1 e2 hbt
      go_wp2_with fail
      go_end0
      rw [HR.out]
      refine ⟨rfl, ⟨_, ev, H4.out⟩, (HB.out.mono H.out.base_le).trans ?_⟩
      exact Chg.to_below (S := fun k => k = t ∨ k = b) (((((Chg.refl _ w2).setCell (p := ⟨t, n * 22 + 4, none⟩) (.inl (.inl rfl)) _).setCell (p := ⟨t, n * 22 + 5 + k, none⟩) (.inl (.inl rfl)) _).setCell (p := ⟨b, 2 + k, none⟩) (.inl (.inr rfl)) _).drew.drew) H1.out.base_le (fun j hj => by
        rcases hj with rfl | rfl
        · exact H.out.lt
        · exact H.out.lb)

set_option maxHeartbeats 2000000 in
theorem lock_none (h : TlAt w base b m t tw ts ev) {n : Nat} {x : Th × Value} (hx : ts[n]? = some x) (hn4 : n < 4) {k i : Nat} (hok : ThOk x.1 k i) (hlen : tw.evs.length < 70000) (hw : wanted x.1 = none) (hck : 0 ≤ tw.clock ∧ tw.clock ≤ 70000) :
    Calls Try.prog 42 #[.pointer (some ⟨b, 0, none⟩), .int .i64 (n : Int)] w (TlDone base b m t (tw.lock n x.1) w) := by
  have hs2 := wanted_none hw
  have hR1 : ∀ s, s < 16 → (x.1.reads.testBit s && stale tw.locks x.1 s) = true → tw.lock n x.1 = { tw with clock := tw.clock + 1 }.abort n x.1 := fun s hs h => by
    unfold TW.lock
    rw [hw]
    simp only
    rw [if_pos (List.any_eq_true.2 ⟨s, by simpa using hs, h⟩)]
  have hR2 : (∀ s, s < 16 → (x.1.reads.testBit s && stale tw.locks x.1 s) = false) → tw.lock n x.1 = { tw with clock := tw.clock + 1, ths := tw.ths.set n { x.1 with now := tw.clock + 1, phase := 3 }, evs := tw.evs ++ [⟨n, 7, tw.clock + 1, 1⟩] } := fun h => by
    unfold TW.lock
    rw [hw]
    simp only
    rw [if_neg (fun hc => by
      obtain ⟨s, hs, h2⟩ := List.any_eq_true.1 hc
      rw [h s (by simpa using hs)] at h2
      cases h2)]
  have HR1 := hidI hR1
  have HR2 := hidI hR2
  have HCK := hidI hck
  have HS2 := hidI hs2
  clear hw hs2 hR1 hR2 hck
  have c1 := h.wcell 18 _ rfl
  have hn : n < ts.length := (List.getElem?_eq_some_iff.1 hx).1
  have c4 : w.cell? ⟨t, n * 22 + 4, none⟩ = some (.int .u16 x.1.held) := h.cell hx 4 _ rfl
  have g4 := fun t' => ext_cell c4 t'
  obtain ⟨l, hl, hl2, hl3⟩ := andNot_bit (needs_lt x.1.log) hok.hd
  have H := hidI h
  have HX := hidI hx
  have HOK := hidI hok
  have HL := hidI hlen
  have HN4 := hidI hn4
  have HL2 := hidI hl2
  have HL3 := hidI hl3
  clear h hx hok hlen c4 hl2 hl3 hn4
  go_enter Try.func42, Try.ntmps42
  go_wp2_with fail
  refine wp_region_grow (by kernel_rfl) (by kernel_rfl) ?_
  repeat (go_big_quiet_step ((first | (go_at_call 49; exact grow_of (needs_any (H.out.below (ext_below w _)) HX.out HOK.out.len)))))
  refine wpQuiet_nil ?_
  intro w1 hb
  have HB := hidI hb
  have H1 := hidI (H.out.below hb)
  clear hb g4 c1 hl
  go_wp2_with fail
  go_loopw [24] (fun i wr => ∃ k : Nat, k ≤ 16 ∧ i = .int .i64 (k : Int) ∧ wr = w1) (fun i _ => ((16 : Int) - intOf i).toNat)
  case atStart => exact ⟨0, by omega, rfl, rfl⟩
  case round =>
    obtain ⟨k, hk, rfl, rfl⟩ := hrel
    by_cases hlt : k < 16
    · have hb1 : (bits BinOp.and IntKind.u16 ((l : Int) / 2 ^ k) 1 == 0) = true := by rw [bit_zero HL2.out, HL3.out k hlt, HS2.out k hlt]; rfl
      go_wp2_with fail
      exact ⟨⟨k + 1, by omega, by go_num, trivial⟩, by simp [intOf]; omega⟩
    · obtain rfl : k = 16 := by omega
      have c5 := H1.out.wcell 1 _ rfl
      have f5 := H1.out.wfree 1
      have c6 := H1.out.cell HX.out 21 _ rfl
      have f6 := H1.out.free (n * 22 + 21)
      have e1 : IntKind.i64.wrap (tw.clock + 1) = tw.clock + 1 := IntWalk.i64_in _ (by have := HCK.out; omega)
      have hset := block_setCell (o := 1) (.int .i64 (tw.clock + 1)) H1.out.blk
      have h2 := H1.out.world ((Chg.refl (fun j => j = b) _).setCell (p := ⟨b, 1, none⟩) (.inl rfl) _) (tw.clock + 1) tw.locks hset
      have h3 := h2.poke HX.out { x.1 with now := tw.clock + 1 } rfl (fun e => e) 21 (.int .i64 (tw.clock + 1)) (by decide) rfl
      have hc : Chg (fun k => k = t ∨ k = b) wr ((wr.setCell ⟨b, 1, none⟩ (.int .i64 (tw.clock + 1))).setCell ⟨t, n * 22 + 21, none⟩ (.int .i64 (tw.clock + 1))) :=
        ((Chg.refl _ wr).setCell (p := ⟨b, 1, none⟩) (.inl (.inr rfl)) _).setCell (p := ⟨t, n * 22 + 21, none⟩) (.inl (.inl rfl)) _
      have hx3 := set_self_at HX.out ({ x.1 with now := tw.clock + 1 }, x.2)
      have hbt := h2.bt
      have H3 := hidI h3
      have HX3 := hidI hx3
      have HC := hidI (hc.to_below H1.out.base_le (fun j hj => by
        rcases hj with rfl | rfl
        · exact H.out.lt
        · exact H.out.lb))
      have HB1 := hidI ((HB.out.mono H.out.base_le).trans HC.out)
      clear h2 h3 hset hc hx3 HC
      go_wp2_with fail
      clear c5 f5 c6 f6 e1
      generalize (wr.setCell ⟨b, 1, none⟩ (.int .i64 (tw.clock + 1))).setCell ⟨t, n * 22 + 21, none⟩ (.int .i64 (tw.clock + 1)) = w3 at H3 HB1 ⊢
      have c5 : w3.cell? ⟨t, n * 22 + 2, none⟩ = some (.int .u16 x.1.reads) := H3.out.cell HX3.out 2 _ rfl
      have hrd := HOK.out.rd
      have HRD := hidI hrd
      clear hrd
      go_loopw [90] (fun i wr => ∃ k : Nat, k ≤ 16 ∧ i = .int .i64 (k : Int) ∧ wr = w3 ∧ Hid (∀ s, s < k → (x.1.reads.testBit s && stale tw.locks x.1 s) = false)) (fun i _ => ((16 : Int) - intOf i).toNat)
      case atStart => exact ⟨0, by omega, rfl, rfl, hidI (fun s hs => by omega)⟩
      case round =>
        obtain ⟨k, hk, rfl, rfl, HN⟩ := hrel
        by_cases hlt : k < 16
        · cases hbit : x.1.reads.testBit k with
          | false =>
            have hb1 : (bits BinOp.and IntKind.u16 ((x.1.reads : Int) / 2 ^ k) 1 == 1) = false := (bitOf_eq HRD.out k).trans hbit
            have HN2 := hidI (show ∀ s, s < k + 1 → (x.1.reads.testBit s && stale tw.locks x.1 s) = false from fun s hs => by
              rcases (by omega : s < k ∨ s = k) with h | rfl
              · exact HN.out s h
              · rw [hbit]; rfl)
            clear hbit
            go_wp2_with fail
            exact ⟨⟨k + 1, by omega, by go_num, trivial, HN2⟩, by simp [intOf]; omega⟩
          | true =>
            have hb1 : (bits BinOp.and IntKind.u16 ((x.1.reads : Int) / 2 ^ k) 1 == 1) = true := (bitOf_eq HRD.out k).trans hbit
            cases hst : stale tw.locks x.1 k with
            | false =>
              have HN2 := hidI (show ∀ s, s < k + 1 → (x.1.reads.testBit s && stale tw.locks x.1 s) = false from fun s hs => by
                rcases (by omega : s < k ∨ s = k) with h | rfl
                · exact HN.out s h
                · rw [hst, Bool.and_false])
              have HST := hidI (show stale tw.locks { x.1 with now := tw.clock + 1 } k = false from hst)
              clear hbit hst
              go_wp2_with fail
              refine (stale_any H3.out HX3.out HOK.out.hd hlt).mono ?_
              rintro e w4 ⟨rfl, rfl⟩
              rw [HST.out]
              go_wp2_with fail
              exact ⟨⟨k + 1, by omega, by go_num, trivial, HN2⟩, by simp [intOf]; omega⟩
            | true =>
              have HST := hidI (show stale tw.locks { x.1 with now := tw.clock + 1 } k = true from hst)
              have HR := hidI (HR1.out k hlt (by rw [hbit, hst]; rfl))
              clear hbit hst
              go_wp2_with fail
              refine (stale_any H3.out HX3.out HOK.out.hd hlt).mono ?_
              rintro e w4 ⟨rfl, rfl⟩
              rw [HST.out]
              go_wp2_with fail
              refine (abort_any H3.out HX3.out HOK.out.hd HL.out).mono ?_
              rintro e w5 ⟨rfl, ⟨ts5, ev5, hts⟩, hb⟩
              have HT := hidI hts
              have HB3 := hidI hb
              clear hts hb
              go_wp2_with fail
              go_end0
              rw [HR.out]
              have h5 := HT.out
              simp only [TW.abort, List.set_set] at h5 ⊢
              exact ⟨rfl, ⟨ts5, ev5, h5⟩, HB1.out.trans HB3.out⟩
        · obtain rfl : k = 16 := by omega
          have HR := hidI (HR2.out HN.out)
          have c7 : wr.cell? ⟨t, n * 22 + 21, none⟩ = some (.int .i64 (tw.clock + 1)) := H3.out.cell HX3.out 21 _ rfl
          go_wp2_with fail
          refine (tell_any H3.out HL.out ⟨n, 7, tw.clock + 1, 1⟩).mono ?_
          rintro r w4 ⟨rfl, ⟨ev', h1⟩, hc1⟩
          have c8 : w4.cell? ⟨t, n * 22, none⟩ = some (.int .u8 x.1.phase) := h1.cell HX3.out 0 _ rfl
          have f8 := h1.free (n * 22)
          have h2 := h1.poke HX3.out { x.1 with now := tw.clock + 1, phase := 3 } rfl (fun _ => rfl) 0 (.int .u8 3) (by decide) rfl
          simp only [List.set_set, Nat.add_zero] at h2
          have H2 := hidI h2
          have HC1 := hidI (hc1.to_below H3.out.base_le H3.out.ev_base)
          clear h1 h2 hc1
          go_wp2_with fail
          go_end0
          rw [HR.out]
          refine ⟨rfl, ⟨_, ev', H2.out⟩, HB1.out.trans (HC1.out.trans ?_)⟩
          exact Chg.to_below (S := fun k => k = t) ((Chg.refl (fun k => k = t) w4).setCell (p := ⟨t, n * 22, none⟩) (.inl rfl) _) (Nat.le_trans H3.out.base_le HC1.out.size) (fun j hj => by rw [hj]; exact H.out.lt)

end Go.Proofs.Ytlphjkgjcfhihaa

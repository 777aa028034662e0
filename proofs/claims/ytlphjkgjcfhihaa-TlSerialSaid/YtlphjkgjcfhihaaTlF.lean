/- Package tl2: the contracts of find and needs. -/
import Derived.Test.YtlphjkgjcfhihaaTlE
namespace Go.Proofs.Ytlphjkgjcfhihaa
set_option linter.unusedVariables false
set_option linter.unusedSimpArgs false
open Go.RowKit

variable {w w' : World} {base b m t : Nat} {tw : TW} {ts : List (Th × Value)} {ev : Value}

theorem place_le {l : List (Int × Int)} {a : Int} {k : Nat} {c : Int × Int} (hc : l[k]? = some c) (ha : c.1 = a) : place l a ≤ k := by
  rcases Nat.lt_or_ge k (place l a) with h | h
  · have := List.not_of_lt_findIdx h
    obtain ⟨hk, rfl⟩ := List.getElem?_eq_some_iff.1 hc
    simp [ha] at this
  · exact h

set_option maxHeartbeats 1000000 in
theorem find_any (h : TlAt w base b m t tw ts ev) {n : Nat} {x : Th × Value} (hx : ts[n]? = some x) (a : Int) (hlen : x.1.log.length ≤ 64) :
    Calls Try.prog 39 #[.pointer (some ⟨t, n * 22, none⟩), .int .i64 a] w fun e w' => w' = w ∧
      (place x.1.log a < x.1.log.length ∧ (∃ g o c, x.2 = .slice (some ⟨g, o, none⟩) x.1.log.length c ∧ e = .returned (.pointer (some ⟨g, o + place x.1.log a * 2, none⟩))) ∨
        x.1.log.length ≤ place x.1.log a ∧ e = .returned (.pointer none)) := by
  obtain ⟨ao, c, hv, hcell⟩ := h.logcell hx
  have c1 : w.cell? ⟨t, n * 22 + 3, none⟩ = some (.slice ao x.1.log.length c) := by rw [← hv]; exact h.cell hx 3 _ rfl
  have HC := hidI hcell
  have HV := hidI hv
  have HL := hidI hlen
  clear h hx hcell hv hlen
  go_enter Try.func39, Try.ntmps39
  go_wp2_with fail
  go_loopw [11] (fun i w' => ∃ k : Nat, k ≤ x.1.log.length ∧ i = .int .i64 (k : Int) ∧ Hid (k ≤ place x.1.log a) ∧ w' = w) (fun i _ => ((x.1.log.length : Int) - intOf i).toNat)
  case atStart => exact ⟨0, by omega, rfl, hidI (Nat.zero_le _), rfl⟩
  case round =>
    obtain ⟨k, hk, rfl, HP, rfl⟩ := hrel
    by_cases hlt : k < x.1.log.length
    · obtain ⟨g, o, rfl, _, hcs⟩ := HC.out (by omega)
      obtain ⟨e, he⟩ := some_at hlt
      obtain ⟨d1, d2⟩ := hcs k e he
      have HE := hidI he
      clear hcs he d2
      have h64 : k ≤ 64 := by have := HL.out; omega
      by_cases ha : e.1 = a
      · have hpl := place_le HE.out ha
        have HA := hidI hpl
        have hb : (e.1 == a) = true := by simpa using ha
        clear ha hpl
        go_wp2_with fail
        go_ret
        obtain rfl : k = place x.1.log a := by have := HA.out; have := HP.out; omega
        exact ⟨rfl, .inl ⟨hlt, g, o, c, HV.out, rfl⟩⟩
      · have hb : (e.1 == a) = false := by simpa using ha
        have HN := hidI (show k + 1 ≤ place x.1.log a from by
          have := HP.out
          rcases Nat.lt_or_ge k (place x.1.log a) with h | h
          · exact h
          · exfalso
            have hkp : k = place x.1.log a := by omega
            obtain ⟨c', h1, h2⟩ := place_at (l := x.1.log) (a := a) (by omega)
            rw [← hkp, HE.out] at h1
            cases h1
            exact ha h2)
        clear ha
        go_wp2_with fail
        exact ⟨⟨k + 1, by omega, by go_num, HN, trivial⟩, by simp [intOf]; omega⟩
    · obtain rfl : k = x.1.log.length := by omega
      go_wp2_with fail
      go_ret
      exact ⟨rfl, .inr ⟨HP.out, rfl⟩⟩

theorem wrap_u16 {n : Nat} (h : n < 65536) : IntKind.u16.wrap (n : Int) = (n : Int) := by
  simp only [IntKind.wrap, IntKind.bits, IntKind.signed]
  simp
  omega
theorem pow_u16 {s : Nat} (hs : s < 16) : (2 : Nat) ^ s < 65536 := by
  have := Nat.pow_lt_pow_right (a := 2) (by decide) hs
  exact this
/-- a bit more -/
theorem or_bit {m s : Nat} (hm : m < 65536) (hs : s < 16) : bits BinOp.or IntKind.u16 (m : Int) (IntKind.u16.wrap (2 ^ s)) = ((m ||| 1 <<< s : Nat) : Int) := by
  have e1 : ((2 : Int) ^ s) = ((2 ^ s : Nat) : Int) := (Int.natCast_pow 2 s).symm
  rw [e1, wrap_u16 (pow_u16 hs)]
  unfold bits
  show IntKind.u16.wrap ((BitVec.ofInt 16 (m : Int) ||| BitVec.ofInt 16 ((2 ^ s : Nat) : Int)).toNat : Int) = _
  rw [BitVec.ofInt_natCast, BitVec.ofInt_natCast, BitVec.toNat_or, BitVec.toNat_ofNat, BitVec.toNat_ofNat, Nat.mod_eq_of_lt hm, Nat.mod_eq_of_lt (pow_u16 hs), ← Nat.one_shiftLeft]
  exact wrap_u16 (bit_lt hm hs)
/-- what is left -/
theorem andNot_bit {m h : Nat} (hm : m < 65536) (hh : h < 65536) : ∃ l : Nat, bits BinOp.andNot IntKind.u16 (m : Int) (h : Int) = (l : Int) ∧ l < 65536 ∧ ∀ s, s < 16 → l.testBit s = (m.testBit s && !h.testBit s) := by
  refine ⟨(BitVec.ofNat 16 m &&& ~~~ BitVec.ofNat 16 h).toNat, ?_, (BitVec.ofNat 16 m &&& ~~~ BitVec.ofNat 16 h).isLt, fun s hs => ?_⟩
  · unfold bits
    show IntKind.u16.wrap ((BitVec.ofInt 16 (m : Int) &&& ~~~ BitVec.ofInt 16 (h : Int)).toNat : Int) = _
    rw [BitVec.ofInt_natCast, BitVec.ofInt_natCast]
    exact wrap_u16 (BitVec.ofNat 16 m &&& ~~~ BitVec.ofNat 16 h).isLt
  · rw [BitVec.testBit_toNat, BitVec.getLsbD_and, BitVec.getLsbD_not, BitVec.getLsbD_ofNat, BitVec.getLsbD_ofNat]
    simp [hs]

theorem needs_lt (l : List (Int × Int)) : needs l < 65536 := by
  unfold needs
  have : ∀ (l : List (Int × Int)) (m : Nat), m < 65536 → l.foldl (fun m c => m ||| 1 <<< stripeN c.1) m < 65536 := by
    intro l
    induction l with
    | nil => intro m h; exact h
    | cons c l ih => intro m h; exact ih _ (bit_lt h (stripeN_lt _))
  exact this l 0 (by decide)
theorem needs_snoc (l : List (Int × Int)) (c : Int × Int) : needs (l ++ [c]) = needs l ||| 1 <<< stripeN c.1 := by simp [needs]

set_option maxHeartbeats 1000000 in
theorem needs_any (h : TlAt w base b m t tw ts ev) {n : Nat} {x : Th × Value} (hx : ts[n]? = some x) (hlen : x.1.log.length ≤ 64) :
    Calls Try.prog 49 #[.pointer (some ⟨t, n * 22, none⟩)] w fun e w' => e = .returned (.int .u16 (needs x.1.log : Nat)) ∧ Below w.heap.size w w' := by
  obtain ⟨ao, c, hv, hcell⟩ := h.logcell hx
  have c1 : w.cell? ⟨t, n * 22 + 3, none⟩ = some (.slice ao x.1.log.length c) := by rw [← hv]; exact h.cell hx 3 _ rfl
  have HC := hidI hcell
  have HL := hidI hlen
  clear h hx hcell hv hlen
  go_enter Try.func49, Try.ntmps49
  go_wp2_with fail
  go_loopw [11, 3] (fun i v w' => ∃ k : Nat, k ≤ x.1.log.length ∧ i = .int .i64 (k : Int) ∧ v = .int .u16 (needs (x.1.log.take k) : Nat) ∧ Hid (Below w.heap.size w w')) (fun i _ _ => ((x.1.log.length : Int) - intOf i).toNat)
  case atStart => exact ⟨0, by omega, rfl, rfl, hidI (Below.refl _ _)⟩
  case round =>
    obtain ⟨k, hk, rfl, rfl, HB⟩ := hrel
    by_cases hlt : k < x.1.log.length
    · obtain ⟨g, o, rfl, hg, hcs⟩ := HC.out (by omega)
      obtain ⟨e, he⟩ := some_at hlt
      obtain ⟨d1, d2⟩ := hcs k e he
      have d3 : wr.cell? ⟨g, o + k * 2, none⟩ = some (.int .i64 e.1) := (World.cell?_of_block (w := w) (HB.out.block _ hg)).trans d1
      have d4 : wr.cell? ⟨g, o + k * 2 + 1, none⟩ = some (.int .i64 e.2) := (World.cell?_of_block (w := w) (HB.out.block _ hg)).trans d2
      have HT := hidI (take_snoc he)
      have h64 : k ≤ 64 := by have := HL.out; omega
      have hs := stripeN_lt e.1
      have HN := hidI (needs_snoc (x.1.log.take k) e)
      generalize hm : needs (x.1.log.take k) = m0
      have HM := hidI hm
      clear hcs he d1 d2 hm hg
      go_wp2_with (go_at_call 40; refine (stripe_any _).mono ?_; rintro e w1 ⟨rfl, rfl⟩)
      refine ⟨⟨k + 1, by omega, by go_num, ?_, hidI (HB.out.alloc HB.out.size _)⟩, by simp [intOf]; omega⟩
      rw [or_bit (by rw [← HM.out]; exact needs_lt _) hs, HT.out, HN.out, HM.out]
    · obtain rfl : k = x.1.log.length := by omega
      go_wp2_with fail
      go_ret
      rw [List.take_length]
      exact ⟨rfl, HB.out⟩

end Go.Proofs.Ytlphjkgjcfhihaa

/- Package tl2: the contracts of release, as abort and as back call it. -/
import Derived.Test.YtlphjkgjcfhihaaTlB
namespace Go.Proofs.Ytlphjkgjcfhihaa
set_option linter.unusedVariables false
set_option linter.unusedSimpArgs false
open Go.RowKit

theorem encTh_old (x : Th × Value) : ∀ s, s < 16 → (encTh x)[5 + s]? = some (.int .i64 (x.1.old s))
  | 0, _ => rfl | 1, _ => rfl | 2, _ => rfl | 3, _ => rfl | 4, _ => rfl | 5, _ => rfl | 6, _ => rfl | 7, _ => rfl
  | 8, _ => rfl | 9, _ => rfl | 10, _ => rfl | 11, _ => rfl | 12, _ => rfl | 13, _ => rfl | 14, _ => rfl | 15, _ => rfl
  | n + 16, h => absurd h (by omega)

theorem encW_lock (mv : Value) (c : Int) (lk : Nat → Int) (tv ev : Value) : ∀ s, s < 16 → (encW mv c lk tv ev)[2 + s]? = some (.int .i64 (lk s))
  | 0, _ => rfl | 1, _ => rfl | 2, _ => rfl | 3, _ => rfl | 4, _ => rfl | 5, _ => rfl | 6, _ => rfl | 7, _ => rfl
  | 8, _ => rfl | 9, _ => rfl | 10, _ => rfl | 11, _ => rfl | 12, _ => rfl | 13, _ => rfl | 14, _ => rfl | 15, _ => rfl
  | n + 16, h => absurd h (by omega)

theorem encW_set (mv : Value) (c : Int) (lk : Nat → Int) (v : Int) (tv ev : Value) : ∀ s, s < 16 → (encW mv c lk tv ev).toArray.setIfInBounds (2 + s) (.int .i64 v) = (encW mv c (upd lk s v) tv ev).toArray
  | 0, _ => rfl | 1, _ => rfl | 2, _ => rfl | 3, _ => rfl | 4, _ => rfl | 5, _ => rfl | 6, _ => rfl | 7, _ => rfl
  | 8, _ => rfl | 9, _ => rfl | 10, _ => rfl | 11, _ => rfl | 12, _ => rfl | 13, _ => rfl | 14, _ => rfl | 15, _ => rfl
  | n + 16, h => absurd h (by omega)

theorem encW_eq (mv : Value) (c : Int) (lk lk' : Nat → Int) (tv ev : Value) (h : ∀ s, s < 16 → lk s = lk' s) : encW mv c lk tv ev = encW mv c lk' tv ev := by
  unfold encW
  rw [h 0 (by decide), h 1 (by decide), h 2 (by decide), h 3 (by decide), h 4 (by decide), h 5 (by decide), h 6 (by decide), h 7 (by decide), h 8 (by decide), h 9 (by decide), h 10 (by decide), h 11 (by decide), h 12 (by decide), h 13 (by decide), h 14 (by decide), h 15 (by decide)]

variable {w w' : World} {base b m t : Nat} {tw : TW} {ts : List (Th × Value)} {ev : Value}

/-- one cell of a thread -/
theorem TlAt.cell (h : TlAt w base b m t tw ts ev) {n : Nat} {x : Th × Value} (hx : ts[n]? = some x) (j : Nat) (u : Value) (hu : (encTh x)[j]? = some u) : w.cell? ⟨t, n * 22 + j, none⟩ = some u :=
  cell_of_block h.ths (by rw [List.getElem?_toArray]; exact flat_at encTh_len ts hx j u hu)
theorem TlAt.free (h : TlAt w base b m t tw ts ev) (o : Nat) : w.frozen? ⟨t, o, none⟩ = false := free_of_block h.ths
theorem TlAt.wcell (h : TlAt w base b m t tw ts ev) (j : Nat) (u : Value) (hu : (encW (.slice (some ⟨m, 0, none⟩) tw.mem.length tw.mem.length) tw.clock tw.locks (.slice (some ⟨t, 0, none⟩) ts.length ts.length) ev)[j]? = some u) : w.cell? ⟨b, j, none⟩ = some u :=
  cell_of_block h.blk (by rw [List.getElem?_toArray]; exact hu)
theorem TlAt.wfree (h : TlAt w base b m t tw ts ev) (o : Nat) : w.frozen? ⟨b, o, none⟩ = false := free_of_block h.blk

set_option maxHeartbeats 400000 in
theorem say_old (h : TlAt w base b m t tw ts ev) {n : Nat} {x : Th × Value} (hx : ts[n]? = some x) {g : Nat} (hg : w.heap[g]? = some (.cells #[.pointer (some ⟨t, n * 22, none⟩)] 91 (0, 0))) (s : Nat) (hs : s < 16) :
    Calls Try.prog 45 #[.int .i64 (s : Int), .pointer (some ⟨g, 0, none⟩)] w fun r w' => r = .returned (.int .i64 (x.1.old s)) ∧ w' = w := by
  have c1 := cell_of_block (o := 0) hg rfl
  have c2 : w.cell? ⟨t, n * 22 + 5 + s, none⟩ = some (.int .i64 (x.1.old s)) := by rw [Nat.add_assoc]; exact h.cell hx _ _ (encTh_old x s hs)
  clear h hx hg
  go_enter Try.func45, Try.ntmps45
  go_wp2_with fail
  go_ret
  exact ⟨rfl, rfl⟩

set_option maxHeartbeats 400000 in
theorem say_new (h : TlAt w base b m t tw ts ev) {n : Nat} {x : Th × Value} (hx : ts[n]? = some x) {g : Nat} (hg : w.heap[g]? = some (.cells #[.pointer (some ⟨t, n * 22, none⟩)] 91 (0, 0))) (hn : 0 ≤ x.1.now ∧ x.1.now ≤ 70000) (s : Nat) :
    Calls Try.prog 50 #[.int .i64 (s : Int), .pointer (some ⟨g, 0, none⟩)] w fun r w' => r = .returned (.int .i64 (2 * x.1.now)) ∧ w' = w := by
  have c1 := cell_of_block (o := 0) hg rfl
  have c2 : w.cell? ⟨t, n * 22 + 21, none⟩ = some (.int .i64 x.1.now) := h.cell hx _ _ rfl
  have e1 : IntKind.i64.wrap (2 * x.1.now) = 2 * x.1.now := IntWalk.i64_in _ (by omega)
  clear h hx hg hn
  go_enter Try.func50, Try.ntmps50
  go_wp2_with fail
  go_ret
  exact ⟨rfl, rfl⟩

/-- the test of a bit -/
def bitOf (h s : Nat) : Bool := bits BinOp.and IntKind.u16 ((h : Int) / 2 ^ s) 1 == 1
theorem bitOf_eq {h : Nat} (hh : h < 65536) (s : Nat) : bitOf h s = h.testBit s := by
  unfold bitOf bits
  show (IntKind.u16.wrap ((BitVec.ofInt 16 ((h : Int) / 2 ^ s) &&& BitVec.ofInt 16 1).toNat : Int) == 1) = _
  have e1 : ((h : Int) / 2 ^ s) = ((h / 2 ^ s : Nat) : Int) := by
    rw [Int.natCast_ediv, Int.natCast_pow]; rfl
  rw [e1]
  rw [show (1 : Int) = ((1 : Nat) : Int) from rfl, BitVec.ofInt_natCast, BitVec.ofInt_natCast, BitVec.toNat_and, BitVec.toNat_ofNat, BitVec.toNat_ofNat]
  have hlt : h / 2 ^ s < 2 ^ 16 := Nat.lt_of_le_of_lt (Nat.div_le_self _ _) hh
  rw [Nat.mod_eq_of_lt hlt, show 1 % 2 ^ 16 = 2 ^ 1 - 1 from by decide, Nat.and_two_pow_sub_one_eq_mod]
  have h2 : h / 2 ^ s % 2 ^ 1 < 2 := Nat.mod_lt _ (by decide)
  rw [Nat.testBit, Nat.shiftRight_eq_div_pow, Nat.one_and_eq_mod_two]
  rcases (by omega : h / 2 ^ s % 2 ^ 1 = 0 ∨ h / 2 ^ s % 2 ^ 1 = 1) with e | e
  · rw [e]; rfl
  · rw [e]; rfl

/-- the locks behind k of sixteen rounds -/
def freedK (held : Nat) (say locks : Nat → Int) (k : Nat) : Nat → Int := fun s => if s < k ∧ held.testBit s = true then say s else locks s
theorem freedK_yes {held : Nat} {say locks : Nat → Int} {k : Nat} (h : held.testBit k = true) : freedK held say locks (k + 1) = upd (freedK held say locks k) k (say k) := by
  funext s
  simp only [freedK, upd]
  by_cases e : s = k
  · subst e; simp [h]
  · rw [if_neg e]
    by_cases h2 : s < k
    · simp [h2, show s < k + 1 from by omega]
    · simp [h2, show ¬ s < k + 1 from by omega]
theorem freedK_no {held : Nat} {say locks : Nat → Int} {k : Nat} (h : held.testBit k = false) : freedK held say locks (k + 1) = freedK held say locks k := by
  funext s
  simp only [freedK]
  by_cases e : s = k
  · subst e; simp [h]
  · by_cases h2 : s < k
    · simp [h2, show s < k + 1 from by omega]
    · simp [h2, show ¬ s < k + 1 from by omega]
theorem freedK_zero {held : Nat} {say locks : Nat → Int} : freedK held say locks 0 = locks := by funext s; simp [freedK]

set_option maxHeartbeats 1000000 in
theorem release_old (h : TlAt w base b m t tw ts ev) {n : Nat} {x : Th × Value} (hx : ts[n]? = some x) (hh : x.1.held < 65536) {g : Nat} (hg : w.heap[g]? = some (.cells #[.pointer (some ⟨t, n * 22, none⟩)] 91 (0, 0))) (hgb : g ≠ b) :
    Calls Try.prog 44 #[.pointer (some ⟨b, 0, none⟩), .pointer (some ⟨t, n * 22, none⟩), .func (.func 45) #[] #[.pointer (some ⟨g, 0, none⟩)]] w fun r w' => r = .returned (.tuple #[]) ∧
      TlAt w' base b m t { tw with locks := freed x.1.held x.1.old tw.locks } ts ev ∧ Chg (fun k => k = b) w w' := by
  have H := hidI h
  have HX := hidI hx
  have HH := hidI hh
  have HG := hidI hg
  have HN := hidI hgb
  clear h hx hh hg hgb
  go_enter Try.func44, Try.ntmps44
  go_wp2_with fail
  go_loopw [7] (fun i w' => ∃ k : Nat, k ≤ 16 ∧ i = .int .i64 (k : Int) ∧ Hid (TlAt w' base b m t { tw with locks := freedK x.1.held x.1.old tw.locks k } ts ev) ∧ Hid (Chg (fun k => k = b) w w')) (fun i _ => ((16 : Int) - intOf i).toNat)
  case atStart => exact ⟨0, by omega, rfl, by rw [freedK_zero]; exact H, hidI (Chg.refl _ _)⟩
  case round =>
    obtain ⟨k, hk, rfl, HT, HC⟩ := hrel
    by_cases hlt : k < 16
    · have c1 : wr.cell? ⟨t, n * 22 + 4, none⟩ = some (.int .u16 x.1.held) := HT.out.cell HX.out 4 _ rfl
      by_cases hbit : x.1.held.testBit k = true
      · have hb1 : (bits BinOp.and IntKind.u16 ((x.1.held : Int) / 2 ^ k) 1 == 1) = true := (bitOf_eq HH.out k).trans hbit
        have c2 := HT.out.wcell (2 + k) _ (encW_lock _ _ _ _ _ k hlt)
        have c3 := HT.out.wfree (2 + k)
        have hgr := hidI (chgblk HC.out HG.out HN.out)
        go_wp2_with fail
        go_region_with (go_at_call 45; refine (say_old HT.out.drew HX.out hgr.out k hlt).mono ?_; rintro e w1 ⟨rfl, rfl⟩)
        all_goals go_wp2_with fail
        all_goals (
          have hset := block_setCell (o := 2 + k) (.int .i64 (x.1.old k)) HT.out.blk
          rw [encW_set _ _ _ _ _ _ k hlt, ← freedK_yes hbit] at hset
          exact ⟨⟨k + 1, by omega, by go_num, hidI ((HT.out.world ((Chg.refl (fun k => k = b) wr).setCell (p := ⟨b, 2 + k, none⟩) (.inl rfl) _) _ _ hset).drew), hidI ((HC.out.setCell (p := ⟨b, 2 + k, none⟩) (.inl rfl) _).drew)⟩, by simp [intOf]; omega⟩)
      · have hb1 : (bits BinOp.and IntKind.u16 ((x.1.held : Int) / 2 ^ k) 1 == 1) = false := (bitOf_eq HH.out k).trans (by simpa using hbit)
        go_wp2_with fail
        exact ⟨⟨k + 1, by omega, by go_num, by rw [freedK_no (by simpa using hbit)]; exact HT, HC⟩, by simp [intOf]; omega⟩
    · obtain rfl : k = 16 := by omega
      go_wp2_with fail
      go_end0
      exact ⟨rfl, HT.out, HC.out⟩

set_option maxHeartbeats 1000000 in
theorem release_new (h : TlAt w base b m t tw ts ev) {n : Nat} {x : Th × Value} (hx : ts[n]? = some x) (hh : x.1.held < 65536) (hw : 0 ≤ x.1.now ∧ x.1.now ≤ 70000) {g : Nat} (hg : w.heap[g]? = some (.cells #[.pointer (some ⟨t, n * 22, none⟩)] 91 (0, 0))) (hgb : g ≠ b) :
    Calls Try.prog 44 #[.pointer (some ⟨b, 0, none⟩), .pointer (some ⟨t, n * 22, none⟩), .func (.func 50) #[] #[.pointer (some ⟨g, 0, none⟩)]] w fun r w' => r = .returned (.tuple #[]) ∧
      TlAt w' base b m t { tw with locks := freed x.1.held (fun _ => 2 * x.1.now) tw.locks } ts ev ∧ Chg (fun k => k = b) w w' := by
  have H := hidI h
  have HX := hidI hx
  have HH := hidI hh
  have HG := hidI hg
  have HN := hidI hgb
  have HW := hidI hw
  clear h hx hh hg hgb hw
  go_enter Try.func44, Try.ntmps44
  go_wp2_with fail
  go_loopw [7] (fun i w' => ∃ k : Nat, k ≤ 16 ∧ i = .int .i64 (k : Int) ∧ Hid (TlAt w' base b m t { tw with locks := freedK x.1.held (fun _ => 2 * x.1.now) tw.locks k } ts ev) ∧ Hid (Chg (fun k => k = b) w w')) (fun i _ => ((16 : Int) - intOf i).toNat)
  case atStart => exact ⟨0, by omega, rfl, by rw [freedK_zero]; exact H, hidI (Chg.refl _ _)⟩
  case round =>
    obtain ⟨k, hk, rfl, HT, HC⟩ := hrel
    by_cases hlt : k < 16
    · have c1 : wr.cell? ⟨t, n * 22 + 4, none⟩ = some (.int .u16 x.1.held) := HT.out.cell HX.out 4 _ rfl
      by_cases hbit : x.1.held.testBit k = true
      · have hb1 : (bits BinOp.and IntKind.u16 ((x.1.held : Int) / 2 ^ k) 1 == 1) = true := (bitOf_eq HH.out k).trans hbit
        have c2 := HT.out.wcell (2 + k) _ (encW_lock _ _ _ _ _ k hlt)
        have c3 := HT.out.wfree (2 + k)
        have hgr := hidI (chgblk HC.out HG.out HN.out)
        go_wp2_with fail
        go_region_with (go_at_call 50; refine (say_new HT.out.drew HX.out hgr.out HW.out k).mono ?_; rintro e w1 ⟨rfl, rfl⟩)
        all_goals go_wp2_with fail
        all_goals (
          have hset := block_setCell (o := 2 + k) (.int .i64 (2 * x.1.now)) HT.out.blk
          rw [encW_set _ _ _ _ _ _ k hlt, ← freedK_yes (say := fun _ => 2 * x.1.now) hbit] at hset
          exact ⟨⟨k + 1, by omega, by go_num, hidI ((HT.out.world ((Chg.refl (fun k => k = b) wr).setCell (p := ⟨b, 2 + k, none⟩) (.inl rfl) _) _ _ hset).drew), hidI ((HC.out.setCell (p := ⟨b, 2 + k, none⟩) (.inl rfl) _).drew)⟩, by simp [intOf]; omega⟩)
      · have hb1 : (bits BinOp.and IntKind.u16 ((x.1.held : Int) / 2 ^ k) 1 == 1) = false := (bitOf_eq HH.out k).trans (by simpa using hbit)
        go_wp2_with fail
        exact ⟨⟨k + 1, by omega, by go_num, by rw [freedK_no (by simpa using hbit)]; exact HT, HC⟩, by simp [intOf]; omega⟩
    · obtain rfl : k = 16 := by omega
      go_wp2_with fail
      go_end0
      exact ⟨rfl, HT.out, HC.out⟩

end Go.Proofs.Ytlphjkgjcfhihaa

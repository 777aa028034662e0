/- turnstilelaw01.Book.Attempts, Numbers, Events. -/
import Derived.Test.YtilkpmjkiohfdaaGreatDoorHistU
import Derived.Test.YtilkpmjkiohfdaaGreatDoorBkTell
namespace Go.Proofs.YtilkpmjkiohfdaaGreatDoor
open Go.RowKit
set_option linter.unusedVariables false
set_option linter.unusedSimpArgs false

def ownsPs (v : Value) (ps : List (Att × Value)) (k : Nat) : Prop := v.ownBlock = some k ∨ ∃ (j : Nat) (p : Att × Value), ps[j]? = some p ∧ p.2.ownBlock = some k
theorem Owned.from {w : World} {base : Nat} {v : Value} {ps : List (Att × Value)} (h : Owned w base v ps) {g : Nat} (hg : ownsPs v ps g) : base ≤ g ∧ g < w.heap.size := by
  rcases hg with hg | ⟨j, p, hp, hg⟩
  · exact rowLt h.row hg
  · exact rowLt (h.own j p hp) hg
theorem Owned.chg {S : Nat → Prop} {w w' : World} {base : Nat} {v : Value} {ps : List (Att × Value)} (h : Owned w base v ps) (hc : Chg S w w') (hs : ∀ g, ownsPs v ps g → ¬ S g) : Owned w' base v ps :=
  ⟨ownsRow_chg h.row hc (fun g hg => hs g (.inl hg)), fun j p hp => ownsRow_chg (h.own j p hp) hc (fun g hg => hs g (.inr ⟨j, p, hp, hg⟩)), h.ne, h.lg⟩

/-- the lists of the first k attempts -/
def firstPs (ps : List (Att × Value)) (k b : Nat) : Prop := ∃ (j : Nat) (p : Att × Value), j < k ∧ ps[j]? = some p ∧ p.2.ownBlock = some b

set_option maxRecDepth 100000 in
set_option maxHeartbeats 4000000 in
theorem attemptsKeep_any {w : World} {base kb cnt : Nat} {O : Nat → Prop} {v : Value} {ps : List (Att × Value)} (h : BkTell w base kb cnt O) (hO : Owned w base v ps) (hfree : ∀ g, ownsPs v ps g → ¬ O g ∧ g ≠ kb) (hcnt : cnt + ps.length < 1000000) (hlen : ps.length ≤ 262144)
    (hdl : ∀ (j : Nat) p, ps[j]? = some p → p.1.done.length ≤ 262144) (hbase : base ≤ w.heap.size) :
    Calls Tryz.prog 37 #[.pointer (some ⟨kb, 0, none⟩), v] w fun r w' => r = .returned (.tuple #[]) ∧ BkTell w' base kb (cnt + ps.length + 1) (fun g => O g ∨ w.heap.size ≤ g ∨ ownsPs v ps g) ∧ Chg (fun k => k = kb ∨ O k ∨ ownsPs v ps k) w w' := by
  obtain ⟨ao, cp, rfl⟩ := ownsRow_shape hO.row
  have H := hidI h
  have HO := hidI hO
  have HF := hidI hfree
  have HD := hidI hdl
  have HBS := hidI hbase
  clear h hO hfree hdl hbase
  go_enter Tryz.func37, Tryz.ntmps37
  go_wp2_with fail
  go_loopw [7] (fun i wr => ∃ k : Nat, k ≤ ps.length ∧ i = .int .i64 (k : Int) ∧ Hid (BkTell wr base kb (cnt + k) (fun g => O g ∨ w.heap.size ≤ g ∨ firstPs ps k g)) ∧ Hid (Chg (fun b => b = kb ∨ O b ∨ firstPs ps k b) w wr)) (fun i _ => ((ps.length : Int) - intOf i).toNat)
  case atStart => exact ⟨0, Nat.zero_le _, rfl, hidI (H.out.wide fun g hg => .inl hg), hidI (Chg.refl _ _)⟩
  case round =>
    obtain ⟨k, hk, rfl, HK, HC⟩ := hrel
    have hne : ∀ g, (Value.slice ao ps.length cp).ownBlock = some g → ¬ (g = kb ∨ O g ∨ firstPs ps k g) := fun g hg e => by
      rcases e with e | e | ⟨j, p, _, hp, e⟩
      · exact (HF.out g (.inl hg)).2 e
      · exact (HF.out g (.inl hg)).1 e
      · exact HO.out.ne j g p hp e hg
    have hrow := ownsRow_chg HO.out.row HC.out hne
    have hsz := HC.out.size
    by_cases hkl : k < ps.length
    · obtain ⟨⟨p, dv⟩, hp⟩ := some_at hkl
      obtain ⟨b, off, rfl, hb, hc⟩ := RdT.at (enc := enc2) enc2_len (Rd.of_own hrow) hp
      have x7 := hc 7 _ rfl
      have hown := HO.out.own k _ hp
      simp only at hown
      obtain ⟨dvo, dvc, rfl⟩ : ∃ ao c, dv = .slice ao p.done.length c := ownsRow_shape hown
      have hfr : ∀ g, (Value.slice dvo p.done.length dvc).ownBlock = some g → g < w.heap.size ∧ ¬ (g = kb ∨ O g ∨ firstPs ps k g) := fun g hg => ⟨(rowLt hown hg).2, fun e => by
        rcases e with e | e | ⟨j, q, hj, hq, e⟩
        · exact (HF.out g (.inr ⟨k, _, hp, hg⟩)).2 e
        · exact (HF.out g (.inr ⟨k, _, hp, hg⟩)).1 e
        · exact HO.out.lg k j g _ q (by omega) hp hq hg e⟩
      have HKE := hidI (bkTell_keepEvent HK.out (by omega) (by have := HD.out k _ hp; simp only at this; omega) (ownsRow_chg hown HC.out (fun g hg => (hfr g hg).2)) (fun g hg => ⟨fun e => by
        have h1 := hfr g hg
        rcases e with e | e | e
        · exact h1.2 (.inr (.inl e))
        · omega
        · exact h1.2 (.inr (.inr e)), fun e => (hfr g hg).2 (.inl e)⟩) (Nat.le_trans HBS.out hsz))
      have HP := hidI hp
      clear hc hp hown hfr hne hrow hb
      go_wp2_with fail
      refine HKE.out.mono ?_
      rintro e w1 ⟨rfl, hk1, hc1⟩
      have HK1 : Hid (BkTell w1 base kb (cnt + (k + 1)) (fun g => O g ∨ w.heap.size ≤ g ∨ firstPs ps (k + 1) g)) := hidI (hk1.wide fun g hg => by
        rcases hg with (hg | hg | ⟨j, q, hj, hq, hg⟩) | hg | hg
        · exact .inl hg
        · exact .inr (.inl hg)
        · exact .inr (.inr ⟨j, q, by omega, hq, hg⟩)
        · exact .inr (.inl (Nat.le_trans hsz hg))
        · exact .inr (.inr ⟨k, _, by omega, HP.out, hg⟩))
      have HC1 := hidI (Chg.then_ (S := fun b => b = kb ∨ O b ∨ firstPs ps (k + 1) b) ⟨HC.out.os, HC.out.tape, HC.out.output, HC.out.size, fun b hb hn => HC.out.block b hb (fun e => hn (by
        rcases e with e | e | ⟨j, q, hj, hq, e⟩
        · exact .inl e
        · exact .inr (.inl e)
        · exact .inr (.inr ⟨j, q, by omega, hq, e⟩)))⟩ hc1 (fun b hb hg => by
        rcases hg with hg | hg | hg | ⟨j, q, hj, hq, hg⟩
        · exact .inl hg
        · exact .inr (.inl hg)
        · omega
        · exact .inr (.inr ⟨j, q, by omega, hq, hg⟩)))
      clear hk1 hc1 HKE
      go_wp2_with fail
      exact ⟨⟨k + 1, by omega, by go_num, HK1, HC1⟩, by simp [intOf]; omega⟩
    · obtain rfl : k = ps.length := by omega
      have HKA := hidI (bkTell_keepAttempt HK.out (by omega) (by omega) hrow (fun g hg => ⟨fun e => by
        have h1 := hne g hg
        have h2 := (rowLt HO.out.row hg).2
        rcases e with e | e | e
        · exact h1 (.inr (.inl e))
        · omega
        · exact h1 (.inr (.inr e)), fun e => hne g hg (.inl e)⟩) (Nat.le_trans HBS.out hsz))
      clear hne hrow
      go_wp2_with fail
      refine HKA.out.mono ?_
      rintro e w1 ⟨rfl, hk1, hc1⟩
      have hk2 : BkTell w1 base kb (cnt + ps.length + 1) (fun g => O g ∨ w.heap.size ≤ g ∨ ownsPs (.slice ao ps.length cp) ps g) := hk1.wide fun g hg => by
        rcases hg with (hg | hg | ⟨j, q, hj, hq, hg⟩) | hg | hg
        · exact .inl hg
        · exact .inr (.inl hg)
        · exact .inr (.inr (.inr ⟨j, q, hq, hg⟩))
        · exact .inr (.inl (Nat.le_trans hsz hg))
        · exact .inr (.inr (.inl hg))
      have hc2 : Chg (fun k => k = kb ∨ O k ∨ ownsPs (.slice ao ps.length cp) ps k) w w1 := Chg.then_ ⟨HC.out.os, HC.out.tape, HC.out.output, HC.out.size, fun b hb hn => HC.out.block b hb (fun e => hn (by
        rcases e with e | e | ⟨j, q, hj, hq, e⟩
        · exact .inl e
        · exact .inr (.inl e)
        · exact .inr (.inr (.inr ⟨j, q, hq, e⟩))))⟩ hc1 (fun b hb hg => by
        rcases hg with hg | hg | hg | ⟨j, q, hj, hq, hg⟩
        · exact .inl hg
        · exact .inr (.inl hg)
        · omega
        · exact .inr (.inr (.inr ⟨j, q, hq, hg⟩)))
      have HR := hidI (And.intro hk2 hc2)
      clear hk1 hc1 hk2 hc2 HKA
      go_wp2_with fail
      go_end0
      exact ⟨rfl, HR.out⟩

set_option maxHeartbeats 400000 in
theorem numbersKeep_any {w : World} {base kb cnt n lc : Nat} {O : Nat → Prop} {lo : Option Addr} {cs : List Value} (h : BkTell w base kb cnt O) (hc : cnt < 1000000) (hn : n ≤ 1000000) (hown : w.ownsRow base 3 1 (.slice lo n lc) n cs) (hfree : ∀ g, (Value.slice lo n lc).ownBlock = some g → ¬ O g ∧ g ≠ kb) (hbase : base ≤ w.heap.size) :
    Calls Tryz.prog 38 #[.pointer (some ⟨kb, 0, none⟩), .slice lo n lc] w fun r w' => r = .returned (.tuple #[]) ∧ BkTell w' base kb (cnt + 1) (fun g => O g ∨ w.heap.size ≤ g ∨ (Value.slice lo n lc).ownBlock = some g) ∧ Chg (fun k => k = kb ∨ O k) w w' := by
  have HK := hidI (bkTell_keepNumber h hc hn hown hfree hbase)
  clear h hc hn hown hfree hbase
  go_enter Tryz.func38, Tryz.ntmps38
  go_wp2_with fail
  refine HK.out.mono ?_
  rintro e w1 ⟨rfl, h1, h2⟩
  have HK1 := hidI (And.intro h1 h2)
  clear h1 h2
  go_wp2_with fail
  go_end0
  exact ⟨rfl, HK1.out⟩

set_option maxHeartbeats 400000 in
theorem eventsKeep_any {w : World} {base kb cnt n lc : Nat} {O : Nat → Prop} {lo : Option Addr} {cs : List Value} (h : BkTell w base kb cnt O) (hc : cnt < 1000000) (hn : n ≤ 1000000) (hown : w.ownsRow base 126 4 (.slice lo n lc) n cs) (hfree : ∀ g, (Value.slice lo n lc).ownBlock = some g → ¬ O g ∧ g ≠ kb) (hbase : base ≤ w.heap.size) :
    Calls Tryz.prog 39 #[.pointer (some ⟨kb, 0, none⟩), .slice lo n lc] w fun r w' => r = .returned (.tuple #[]) ∧ BkTell w' base kb (cnt + 1) (fun g => O g ∨ w.heap.size ≤ g ∨ (Value.slice lo n lc).ownBlock = some g) ∧ Chg (fun k => k = kb ∨ O k) w w' := by
  have HK := hidI (bkTell_keepEvent h hc hn hown hfree hbase)
  clear h hc hn hown hfree hbase
  go_enter Tryz.func39, Tryz.ntmps39
  go_wp2_with fail
  refine HK.out.mono ?_
  rintro e w1 ⟨rfl, h1, h2⟩
  have HK1 := hidI (And.intro h1 h2)
  clear h1 h2
  go_wp2_with fail
  go_end0
  exact ⟨rfl, HK1.out⟩
end Go.Proofs.YtilkpmjkiohfdaaGreatDoor

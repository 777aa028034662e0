/- Package tso: Copy among machines side by side. -/
import Derived.Test.YthmmbldhbdnfpaaGreatDoorTsoCp
import Derived.Test.YthmmbldhbdnfpaaGreatDoorMTsoW
namespace Go.Proofs.YthmmbldhbdnfpaaGreatDoor
open Go.RowKit
set_option linter.unusedVariables false
set_option linter.unusedSimpArgs false

variable {w w' : World} {base b : Nat} {own own' : Nat → Nat} {mm : MM} {xs : List TX} {mv tv ev : Value}

/-- one more machine, that shares nothing but code with one that is there -/
theorem Fleet.copied {l : List Mach} (h : Fleet w base l) (hb : Below w.heap.size w w') {i : Nat} {m : Mach} (hi : l[i]? = some m) (hm : MAt w' base b own m.mm xs mv tv ev)
    (ho : ∀ k, k < w.heap.size → own k = if 5 ≤ m.own k ∧ m.own k % 3 = 2 then m.own k else 0) : Fleet w' base (l ++ [⟨b, own, m.mm, m.N⟩]) := by
  have h1 := h.below hb
  have hmm := List.mem_of_getElem? hi
  have hf : ∀ n ∈ l, ∀ k, w.heap.size ≤ k → n.own k = 0 := fun n hn k hk => by
    obtain ⟨⟨xs2, mv2, tv2, ev2, h3⟩, -⟩ := h.each n hn
    exact h3.fresh k hk
  have hc : ∀ k, k < w.heap.size → own k ≠ 0 → (5 ≤ m.own k ∧ m.own k % 3 = 2) ∧ own k = m.own k := fun k hk hn => by
    have e := ho k hk
    by_cases c : 5 ≤ m.own k ∧ m.own k % 3 = 2
    · rw [if_pos c] at e
      exact ⟨c, e⟩
    · rw [if_neg c] at e
      exact absurd e hn
  have hget : ∀ (j : Nat) n, (l ++ [(⟨b, own, m.mm, m.N⟩ : Mach)])[j]? = some n → (j < l.length ∧ l[j]? = some n) ∨ (j = l.length ∧ n = ⟨b, own, m.mm, m.N⟩) := fun j n hj => by
    rcases Nat.lt_or_ge j l.length with e | e
    · rw [List.getElem?_append_left e] at hj
      exact .inl ⟨e, hj⟩
    · rw [List.getElem?_append_right e] at hj
      have hl := (List.getElem?_eq_some_iff.1 hj).1
      simp only [List.length_singleton] at hl
      have : j - l.length = 0 := by omega
      rw [this] at hj
      simp at hj
      exact .inr ⟨by omega, hj.symm⟩
  refine ⟨fun n hn' => ?_, fun j1 j2 n1 n2 hne hj1 hj2 k hk' => ?_, fun n hn' k hk' => ?_, Nat.le_trans h.here hb.size⟩
  · rcases List.mem_append.1 hn' with e | e
    · exact h1.each n e
    · rw [List.mem_singleton.1 e]
      exact ⟨⟨xs, mv, tv, ev, hm⟩, (h.each m hmm).2⟩
  · rcases hget j1 n1 hj1 with ⟨l1, e1⟩ | ⟨l1, rfl⟩
    · rcases hget j2 n2 hj2 with ⟨l2, e2⟩ | ⟨l2, rfl⟩
      · exact h.apart j1 j2 n1 n2 hne e1 e2 k hk'
      · rcases Nat.lt_or_ge k w.heap.size with e | e
        · obtain ⟨c, e3⟩ := hc k e hk'
          by_cases q : j1 = i
          · subst q
            obtain rfl := Option.some.inj (hi.symm.trans e1)
            exact fun hh => hh.2 c
          · exact h.apart j1 i n1 m q e1 hi k (by omega)
        · exact fun hh => hh.1 (hf n1 (List.mem_of_getElem? e1) k e)
    · rcases hget j2 n2 hj2 with ⟨l2, e2⟩ | ⟨l2, rfl⟩
      · refine fun hh => ?_
        rcases Nat.lt_or_ge k w.heap.size with e | e
        · obtain ⟨c, e3⟩ := hc k e hh.1
          have h2 := hh.2
          simp only at h2
          rw [e3] at h2
          exact h2 c
        · exact hk' (hf n2 (List.mem_of_getElem? e2) k e)
      · omega
  · rcases List.mem_append.1 hn' with e | e
    · exact h.low n e k hk'
    · rw [List.mem_singleton.1 e] at hk'
      have := h.here
      rcases Nat.lt_or_ge k w.heap.size with q | q
      · obtain ⟨c, e3⟩ := hc k q hk'
        exact h.low m hmm k (by omega)
      · omega

theorem copy_f {l : List Mach} (h : Fleet w base l) {i : Nat} {m : Mach} (hi : l[i]? = some m) (hN : m.N ≤ 1000000000) :
    Calls Tryz.prog 17 #[.pointer (some ⟨m.b, 0, none⟩)] w fun e w' => ∃ b' own', e = .returned (.pointer (some ⟨b', 0, none⟩)) ∧ Fleet w' base (l ++ [⟨b', own', m.mm, m.N⟩]) ∧ Below w.heap.size w w' := by
  obtain ⟨⟨xs, mv, tv, ev, hm⟩, hk⟩ := h.each m (List.mem_of_getElem? hi)
  refine (copy_any hm (hk.mono hN)).mono ?_
  rintro e w' ⟨b', own', ys, mv', tv', ev', rfl, h1, h2, h3⟩
  exact ⟨b', own', rfl, h.copied h3 hi h1 h2, h3⟩
end Go.Proofs.YthmmbldhbdnfpaaGreatDoor

/- Package tso: machines side by side: what is done to one leaves the others. -/
import Derived.Test.YtopdcjimpdalpaaGreatTsoV
namespace Go.Proofs.YtopdcjimpdalpaaGreat
open Go.RowKit
set_option linter.unusedVariables false
set_option linter.unusedSimpArgs false

variable {w w' : World} {base b : Nat} {own own' : Nat → Nat} {mm : MM} {xs : List TX} {mv tv ev : Value}

/-- a machine: where it lies, whose the blocks are, what it is, how many steps at most are behind it -/
structure Mach where
  b : Nat
  own : Nat → Nat
  mm : MM
  N : Nat
def Hot (own : Nat → Nat) (k : Nat) : Prop := own k ≠ 0 ∧ ¬ (5 ≤ own k ∧ own k % 3 = 2)
def Mach.lies (w : World) (base : Nat) (m : Mach) : Prop := (∃ xs mv tv ev, MAt w base m.b m.own m.mm xs mv tv ev) ∧ MOk m.N m.mm
structure Fleet (w : World) (base : Nat) (l : List Mach) : Prop where
  each : ∀ m ∈ l, m.lies w base
  apart : ∀ (i j : Nat) m n, i ≠ j → l[i]? = some m → l[j]? = some n → ∀ k, n.own k ≠ 0 → ¬ Hot m.own k
  low : ∀ m ∈ l, ∀ k, m.own k ≠ 0 → base ≤ k
  here : base ≤ w.heap.size

theorem MAt.base_mono {base0 : Nat} (h : MAt w base b own mm xs mv tv ev) (hb : base0 ≤ base) : MAt w base0 b own mm xs mv tv ev :=
  ⟨h.blk, ⟨Nat.le_trans hb h.bT.1, h.bT.2⟩, ownsRow_mono h.mem hb, h.memT, ownsRow_mono h.ths hb, h.thsT, ownsRow_mono h.evs hb, h.evsT, h.same, fun i x hx => by
    have ht := h.th i x hx
    exact ⟨ht.code, fun g hn hg => ⟨Nat.le_trans hb (ht.codeT g hn hg).1, (ht.codeT g hn hg).2⟩, ht.ring, ⟨Nat.le_trans hb ht.ringT.1, ht.ringT.2⟩, ownsRow_mono ht.out hb, ht.outT⟩, h.fresh⟩

theorem Fleet.none (w : World) {base : Nat} (hb : base ≤ w.heap.size) : Fleet w base [] := ⟨fun m hm => absurd hm (by simp), fun i j m n _ hi => by simp at hi, fun m hm => absurd hm (by simp), hb⟩
theorem Fleet.below {l : List Mach} (h : Fleet w base l) (hb : Below w.heap.size w w') : Fleet w' base l :=
  ⟨fun m hm => by
    obtain ⟨⟨xs, mv, tv, ev, h1⟩, h2⟩ := h.each m hm
    exact ⟨⟨xs, mv, tv, ev, h1.below hb⟩, h2⟩, h.apart, h.low, Nat.le_trans h.here hb.size⟩
/-- a machine that was left alone -/
def MGoesKept (w w' : World) (base : Nat) (n : Mach) : Prop := n.lies w' base ∧ ∀ k, w.heap.size ≤ k → n.own k = 0
/-- a change of one machine -/
theorem Fleet.goes {l : List Mach} (h : Fleet w base l) {i : Nat} {m : Mach} (hi : l[i]? = some m) {mm' : MM} {N' : Nat} (hg : MGoes w base m.b m.own mm' w') (hk : MOk N' mm') : (∃ own', Fleet w' base (l.set i ⟨m.b, own', mm', N'⟩)) ∧ Below base w w' := by
  obtain ⟨⟨own', xs', mv', tv', ev', h', ho⟩, hc⟩ := hg
  have hm := List.mem_of_getElem? hi
  obtain ⟨⟨xs, mv, tv, ev, h1⟩, -⟩ := h.each m hm
  have hlt := (List.getElem?_eq_some_iff.1 hi).1
  have hlow' : ∀ k, own' k ≠ 0 → base ≤ k := fun k hn => by
    by_cases e : k < w.heap.size
    · exact h.low m hm k (by rw [← ho k e]; exact hn)
    · have := h.here; omega
  have hold : ∀ (j : Nat) n, l[j]? = some n → j ≠ i → MGoesKept w w' base n := fun j n hj hne => by
    obtain ⟨⟨xs2, mv2, tv2, ev2, h2⟩, hk2⟩ := h.each n (List.mem_of_getElem? hj)
    exact ⟨⟨⟨xs2, mv2, tv2, ev2, h2.chg hc (fun k hn => h.apart i j m n (Ne.symm hne) hi hj k hn)⟩, hk2⟩, fun k hk => h2.fresh k hk⟩
  have hget : ∀ (j : Nat) n, (l.set i ⟨m.b, own', mm', N'⟩)[j]? = some n → (j = i ∧ n = ⟨m.b, own', mm', N'⟩) ∨ (j ≠ i ∧ l[j]? = some n) := fun j n hj => by
    by_cases e : i = j
    · subst e
      rw [List.getElem?_set_self hlt] at hj
      exact .inl ⟨rfl, (Option.some.inj hj).symm⟩
    · rw [List.getElem?_set_ne e] at hj
      exact .inr ⟨fun q => e q.symm, hj⟩
  refine ⟨⟨own', fun n hn => ?_, fun j1 j2 n1 n2 hne h1' h2' k hk' => ?_, fun n hn k hk' => ?_, Nat.le_trans h.here hc.size⟩, hc.to_below h.here (fun k e => h.low m hm k e.1)⟩
  · obtain ⟨j, hj⟩ := List.getElem?_of_mem hn
    rcases hget j n hj with ⟨rfl, rfl⟩ | ⟨hne, hj'⟩
    · exact ⟨⟨xs', mv', tv', ev', h'⟩, hk⟩
    · exact (hold j n hj' hne).1
  · rcases hget j1 n1 h1' with ⟨rfl, rfl⟩ | ⟨hne1, hj1⟩
    · rcases hget j2 n2 h2' with ⟨rfl, -⟩ | ⟨hne2, hj2⟩
      · exact absurd rfl hne
      · by_cases e : k < w.heap.size
        · have := h.apart j1 j2 m n2 hne hi hj2 k hk'
          unfold Hot at this ⊢
          rw [show (Mach.own ⟨m.b, own', mm', N'⟩) k = m.own k from ho k e]
          exact this
        · exact absurd ((hold j2 n2 hj2 hne2).2 k (by omega)) hk'
    · rcases hget j2 n2 h2' with ⟨rfl, rfl⟩ | ⟨hne2, hj2⟩
      · by_cases e : k < w.heap.size
        · exact h.apart j1 j2 n1 m hne hj1 hi k (by rw [← ho k e]; exact hk')
        · intro hh
          exact hh.1 ((hold j1 n1 hj1 hne1).2 k (by omega))
      · exact h.apart j1 j2 n1 n2 hne hj1 hj2 k hk'
  · obtain ⟨j, hj⟩ := List.getElem?_of_mem hn
    rcases hget j n hj with ⟨rfl, rfl⟩ | ⟨hne, hj'⟩
    · exact hlow' k hk'
    · exact h.low n (List.mem_of_getElem? hj') k hk'

/-- one more machine, made of new memory alone -/
theorem Fleet.more {l : List Mach} (h : Fleet w base l) (hb : Below w.heap.size w w') {mm : MM} {N : Nat} (hm : MAt w' w.heap.size b own mm xs mv tv ev) (hk : MOk N mm) : ∃ own', Fleet w' base (l ++ [⟨b, own', mm, N⟩]) := by
  have h1 := h.below hb
  have h2 := hm.low.base_mono h.here
  have hn : ∀ k, lowT own w.heap.size k ≠ 0 → w.heap.size ≤ k := fun k hn => by
    rcases Nat.lt_or_ge k w.heap.size with e | e
    · exact absurd (if_pos e) hn
    · exact e
  have hf : ∀ n ∈ l, ∀ k, w.heap.size ≤ k → n.own k = 0 := fun n hn k hk => by
    obtain ⟨⟨xs2, mv2, tv2, ev2, h3⟩, -⟩ := h.each n hn
    exact h3.fresh k hk
  have hget : ∀ (j : Nat) n, (l ++ [(⟨b, lowT own w.heap.size, mm, N⟩ : Mach)])[j]? = some n → (j < l.length ∧ l[j]? = some n) ∨ (j = l.length ∧ n = ⟨b, lowT own w.heap.size, mm, N⟩) := fun j n hj => by
    rcases Nat.lt_or_ge j l.length with e | e
    · rw [List.getElem?_append_left e] at hj
      exact .inl ⟨e, hj⟩
    · rw [List.getElem?_append_right e] at hj
      have hl := (List.getElem?_eq_some_iff.1 hj).1
      simp only [List.length_singleton] at hl
      have : j - l.length = 0 := by omega
      rw [this] at hj
      simp at hj
      exact .inr ⟨by omega, hj.symm⟩
  refine ⟨lowT own w.heap.size, fun n hn' => ?_, fun j1 j2 n1 n2 hne hj1 hj2 k hk' => ?_, fun n hn' k hk' => ?_, Nat.le_trans h.here hb.size⟩
  · rcases List.mem_append.1 hn' with e | e
    · exact h1.each n e
    · rw [List.mem_singleton.1 e]
      exact ⟨⟨xs, mv, tv, ev, h2⟩, hk⟩
  · rcases hget j1 n1 hj1 with ⟨l1, e1⟩ | ⟨l1, rfl⟩
    · rcases hget j2 n2 hj2 with ⟨l2, e2⟩ | ⟨l2, rfl⟩
      · exact h.apart j1 j2 n1 n2 hne e1 e2 k hk'
      · exact fun hh => hh.1 (hf n1 (List.mem_of_getElem? e1) k (hn k hk'))
    · rcases hget j2 n2 hj2 with ⟨l2, e2⟩ | ⟨l2, rfl⟩
      · refine fun hh => ?_
        have := hn k hh.1
        exact hk' (hf n2 (List.mem_of_getElem? e2) k this)
      · omega
  · rcases List.mem_append.1 hn' with e | e
    · exact h.low n e k hk'
    · rw [List.mem_singleton.1 e] at hk'
      have := hn k hk'
      have := h.here
      omega

theorem step_f {l : List Mach} (h : Fleet w base l) {i : Nat} {m : Mach} (hi : l[i]? = some m) (hN : m.N < 1000000000) (z : Int) :
    Calls Tryz.prog 63 #[.pointer (some ⟨m.b, 0, none⟩), .int .i64 z] w fun r w' => r = .returned (.bool (m.mm.step z).1) ∧ (∃ own', Fleet w' base (l.set i ⟨m.b, own', (m.mm.step z).2, m.N + 1⟩)) ∧ Below base w w' := by
  obtain ⟨⟨xs, mv, tv, ev, hm⟩, hk⟩ := h.each m (List.mem_of_getElem? hi)
  refine (step_any hm hk hN z).mono ?_
  rintro r w' ⟨rfl, hg⟩
  exact ⟨rfl, h.goes hi hg (hk.step z)⟩
theorem flush_f {l : List Mach} (h : Fleet w base l) {i : Nat} {m : Mach} (hi : l[i]? = some m) (z : Int) :
    Calls Tryz.prog 66 #[.pointer (some ⟨m.b, 0, none⟩), .int .i64 z] w fun r w' => r = .returned (.bool (m.mm.flush z).1) ∧ (∃ own', Fleet w' base (l.set i ⟨m.b, own', (m.mm.flush z).2, m.N⟩)) ∧ Below base w w' := by
  obtain ⟨⟨xs, mv, tv, ev, hm⟩, hk⟩ := h.each m (List.mem_of_getElem? hi)
  refine (flush_any hm hk z).mono ?_
  rintro r w' ⟨rfl, hg⟩
  exact ⟨rfl, h.goes hi hg (hk.flush z)⟩
end Go.Proofs.YtopdcjimpdalpaaGreat

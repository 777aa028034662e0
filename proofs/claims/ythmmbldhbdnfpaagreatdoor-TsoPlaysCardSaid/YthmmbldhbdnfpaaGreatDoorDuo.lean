/- The program's machines and the document's, side by side: what is done to one leaves the others. -/
import Derived.Test.YthmmbldhbdnfpaaGreatDoorTsoCf
import Derived.Test.YthmmbldhbdnfpaaGreatDoorRefQ
namespace Go.Proofs.YthmmbldhbdnfpaaGreatDoor
open Go.RowKit
set_option linter.unusedVariables false
set_option linter.unusedSimpArgs false

variable {w w' : World} {base b : Nat} {own own' : Nat → Nat} {mm : MM} {L R : List Mach} {P : List Nat}

def Mach.rlies (w : World) (base : Nat) (m : Mach) : Prop := (∃ xs mv tv ev, RAt w base m.b m.own m.mm xs mv tv ev) ∧ MOk m.N m.mm
/-- P: blocks that are no machine's -/
structure Duo (w : World) (base : Nat) (L R : List Mach) (P : List Nat) : Prop where
  fl : Fleet w base L
  rd : ∀ r ∈ R, r.rlies w base
  rr : ∀ (i j : Nat) r s, i ≠ j → R[i]? = some r → R[j]? = some s → ∀ k, s.own k ≠ 0 → r.own k = 0
  pr : ∀ m ∈ L, ∀ r ∈ R, ∀ k, m.own k ≠ 0 → r.own k = 0
  free : ∀ k ∈ P, k < w.heap.size ∧ (∀ m ∈ L, m.own k = 0) ∧ ∀ r ∈ R, r.own k = 0

theorem Mach.rlies.fresh {m : Mach} (h : m.rlies w base) {k : Nat} (hk : w.heap.size ≤ k) : m.own k = 0 := by
  obtain ⟨⟨xs, mv, tv, ev, h1⟩, h2⟩ := h
  exact h1.fresh k hk
theorem Mach.rlies.chg {S : Nat → Prop} {m : Mach} (h : m.rlies w base) (hc : Chg S w w') (hs : ∀ k, m.own k ≠ 0 ∨ k < base → ¬ S k) : m.rlies w' base := by
  obtain ⟨⟨xs, mv, tv, ev, h1⟩, h2⟩ := h
  exact ⟨⟨xs, mv, tv, ev, h1.chg hc hs⟩, h2⟩
theorem Mach.rlies.low {m : Mach} (h : m.rlies w base) {k : Nat} (hk : m.own k ≠ 0) : base ≤ k := by
  obtain ⟨⟨xs, mv, tv, ev, h1⟩, h2⟩ := h
  exact h1.low k hk
theorem Fleet.freshL (h : Fleet w base L) {m : Mach} (hm : m ∈ L) {k : Nat} (hk : w.heap.size ≤ k) : m.own k = 0 := by
  obtain ⟨⟨xs, mv, tv, ev, h1⟩, h2⟩ := h.each m hm
  exact h1.fresh k hk
theorem Fleet.chg {S : Nat → Prop} (h : Fleet w base L) (hc : Chg S w w') (hs : ∀ m ∈ L, ∀ k, m.own k ≠ 0 → ¬ S k) : Fleet w' base L :=
  ⟨fun m hm => by
    obtain ⟨⟨xs, mv, tv, ev, h1⟩, h2⟩ := h.each m hm
    exact ⟨⟨xs, mv, tv, ev, h1.chg hc (hs m hm)⟩, h2⟩, h.apart, h.low, Nat.le_trans h.here hc.size⟩
theorem Duo.below (h : Duo w base L R P) (hb : Below w.heap.size w w') : Duo w' base L R P :=
  ⟨h.fl.below hb, fun r hr => by
    obtain ⟨⟨xs, mv, tv, ev, h1⟩, h2⟩ := h.rd r hr
    exact ⟨⟨xs, mv, tv, ev, h1.below hb⟩, h2⟩, h.rr, h.pr, fun k hk => ⟨by have := (h.free k hk).1; have := hb.size; omega, (h.free k hk).2⟩⟩
theorem Duo.less {P' : List Nat} (h : Duo w base L R P) (hs : ∀ k ∈ P', k ∈ P) : Duo w base L R P' := ⟨h.fl, h.rd, h.rr, h.pr, fun k hk => h.free k (hs k hk)⟩
/-- new memory is no machine's -/
theorem Duo.fresh (h : Duo w base L R P) (hb : Below w.heap.size w w') {k : Nat} (h1 : w.heap.size ≤ k) (h2 : k < w'.heap.size) : Duo w' base L R (k :: P) :=
  ⟨(h.below hb).fl, (h.below hb).rd, h.rr, h.pr, fun g hg => by
    rcases List.mem_cons.1 hg with rfl | hg
    · exact ⟨h2, fun m hm => h.fl.freshL hm h1, fun r hr => (h.rd r hr).fresh h1⟩
    · exact (h.below hb).free g hg⟩
theorem Duo.alloc (h : Duo w base L R P) (o : Obj) : Duo (w.alloc o) base L R (w.heap.size :: P) := h.fresh ((Below.refl _ _).alloc (Nat.le_refl _) _) (Nat.le_refl _) (by simp)
/-- such blocks are written -/
theorem Duo.pokes {S : Nat → Prop} (h : Duo w base L R P) (hc : Chg S w w') (hs : ∀ k, k < w.heap.size → S k → k ∈ P ∧ base ≤ k) : Duo w' base L R P := by
  have hS : Chg (fun k => S k ∧ k < w.heap.size) w w' := ⟨hc.os, hc.tape, hc.output, hc.size, fun k hk hn => hc.block k hk (fun e => hn ⟨e, hk⟩)⟩
  refine ⟨h.fl.chg hS (fun m hm k hk hh => hk ((h.free k (hs k hh.2 hh.1).1).2.1 m hm)), fun r hr => (h.rd r hr).chg hS (fun k hk hh => ?_), h.rr, h.pr, fun k hk => ⟨by have := (h.free k hk).1; have := hc.size; omega, (h.free k hk).2⟩⟩
  rcases hk with e | e
  · exact e ((h.free k (hs k hh.2 hh.1).1).2.2 r hr)
  · have := (hs k hh.2 hh.1).2; omega
def StayP (P : List Nat) (w w' : World) : Prop := ∀ k ∈ P, w'.heap[k]? = w.heap[k]?
theorem getSet {α : Type} {l : List α} {i : Nat} {m x n : α} {j : Nat} (hi : l[i]? = some m) (hj : (l.set i x)[j]? = some n) : (j = i ∧ n = x) ∨ (j ≠ i ∧ l[j]? = some n) := by
  by_cases e : i = j
  · subst e
    rw [List.getElem?_set_self (List.getElem?_eq_some_iff.1 hi).1] at hj
    exact .inl ⟨rfl, (Option.some.inj hj).symm⟩
  · rw [List.getElem?_set_ne e] at hj
    exact .inr ⟨fun q => e q.symm, hj⟩
theorem getSnoc {α : Type} {l : List α} {x n : α} {j : Nat} (hj : (l ++ [x])[j]? = some n) : (j < l.length ∧ l[j]? = some n) ∨ (j = l.length ∧ n = x) := by
  rcases Nat.lt_or_ge j l.length with e | e
  · rw [List.getElem?_append_left e] at hj
    exact .inl ⟨e, hj⟩
  · rw [List.getElem?_append_right e] at hj
    have hl := (List.getElem?_eq_some_iff.1 hj).1
    simp only [List.length_singleton] at hl
    have : j - l.length = 0 := by omega
    rw [this] at hj
    simp at hj
    exact .inr ⟨by omega, hj.symm⟩

/-- one of the program's has changed -/
theorem Fleet.goesE (h : Fleet w base L) {i : Nat} {m : Mach} (hi : L[i]? = some m) {mm' : MM} {N' : Nat} {xs' : List TX} {mv' tv' ev' : Value} (h' : MAt w' base m.b own' mm' xs' mv' tv' ev') (ho : ∀ k, k < w.heap.size → own' k = m.own k) (hc : Chg (Hot m.own) w w') (hk : MOk N' mm') :
    Fleet w' base (L.set i ⟨m.b, own', mm', N'⟩) := by
  have hm := List.mem_of_getElem? hi
  have hlow' : ∀ k, own' k ≠ 0 → base ≤ k := fun k hn => by
    by_cases e : k < w.heap.size
    · exact h.low m hm k (by rw [← ho k e]; exact hn)
    · have := h.here; omega
  have hold : ∀ (j : Nat) n, L[j]? = some n → j ≠ i → n.lies w' base := fun j n hj hne => by
    obtain ⟨⟨xs2, mv2, tv2, ev2, h2⟩, hk2⟩ := h.each n (List.mem_of_getElem? hj)
    exact ⟨⟨xs2, mv2, tv2, ev2, h2.chg hc (fun k hn => h.apart i j m n (Ne.symm hne) hi hj k hn)⟩, hk2⟩
  refine ⟨fun n hn => ?_, fun j1 j2 n1 n2 hne h1' h2' k hk' => ?_, fun n hn k hk' => ?_, Nat.le_trans h.here hc.size⟩
  · obtain ⟨j, hj⟩ := List.getElem?_of_mem hn
    rcases getSet hi hj with ⟨rfl, rfl⟩ | ⟨hne, hj'⟩
    · exact ⟨⟨xs', mv', tv', ev', h'⟩, hk⟩
    · exact hold j n hj' hne
  · rcases getSet hi h1' with ⟨rfl, rfl⟩ | ⟨hne1, hj1⟩
    · rcases getSet hi h2' with ⟨rfl, -⟩ | ⟨hne2, hj2⟩
      · exact absurd rfl hne
      · by_cases e : k < w.heap.size
        · have := h.apart j1 j2 m n2 hne hi hj2 k hk'
          unfold Hot at this ⊢
          rw [show (Mach.own ⟨m.b, own', mm', N'⟩) k = m.own k from ho k e]
          exact this
        · exact absurd (h.freshL (List.mem_of_getElem? hj2) (by omega)) hk'
    · rcases getSet hi h2' with ⟨rfl, rfl⟩ | ⟨hne2, hj2⟩
      · by_cases e : k < w.heap.size
        · exact h.apart j1 j2 n1 m hne hj1 hi k (by rw [← ho k e]; exact hk')
        · intro hh
          exact hh.1 (h.freshL (List.mem_of_getElem? hj1) (by omega))
      · exact h.apart j1 j2 n1 n2 hne hj1 hj2 k hk'
  · obtain ⟨j, hj⟩ := List.getElem?_of_mem hn
    rcases getSet hi hj with ⟨rfl, rfl⟩ | ⟨hne, hj'⟩
    · exact hlow' k hk'
    · exact h.low n (List.mem_of_getElem? hj') k hk'

theorem Duo.goP (h : Duo w base L R P) {i : Nat} {m : Mach} (hi : L[i]? = some m) {mm' : MM} {N' : Nat} (hg : MGoes w base m.b m.own mm' w') (hk : MOk N' mm') : (∃ own', Duo w' base (L.set i ⟨m.b, own', mm', N'⟩) R P) ∧ StayP P w w' ∧ Below base w w' := by
  obtain ⟨⟨own', xs', mv', tv', ev', h', ho⟩, hc⟩ := hg
  have hm := List.mem_of_getElem? hi
  refine ⟨⟨own', h.fl.goesE hi h' ho hc hk, fun r hr => (h.rd r hr).chg hc (fun k hk' hh => ?_), h.rr, fun n hn r hr k hk' => ?_, fun k hk' => ⟨by have := (h.free k hk').1; have := hc.size; omega, fun n hn => ?_, (h.free k hk').2.2⟩⟩, fun k hk' => hc.block k (h.free k hk').1 (fun e => e.1 ((h.free k hk').2.1 m hm)), hc.to_below h.fl.here (fun k e => h.fl.low m hm k e.1)⟩
  · rcases hk' with e | e
    · exact e (h.pr m hm r hr k hh.1)
    · have := h.fl.low m hm k hh.1; omega
  · obtain ⟨j, hj⟩ := List.getElem?_of_mem hn
    rcases getSet hi hj with ⟨rfl, rfl⟩ | ⟨hne, hj'⟩
    · by_cases e : k < w.heap.size
      · exact h.pr m hm r hr k (by rw [← ho k e]; exact hk')
      · exact (h.rd r hr).fresh (by omega)
    · exact h.pr n (List.mem_of_getElem? hj') r hr k hk'
  · obtain ⟨j, hj⟩ := List.getElem?_of_mem hn
    rcases getSet hi hj with ⟨rfl, rfl⟩ | ⟨hne, hj'⟩
    · exact (ho k (h.free k hk').1).trans ((h.free k hk').2.1 m hm)
    · exact (h.free k hk').2.1 n (List.mem_of_getElem? hj')
theorem Duo.goR (h : Duo w base L R P) {i : Nat} {r : Mach} (hi : R[i]? = some r) {mm' : MM} {N' : Nat} (hg : RGoes w base r.b r.own mm' w') (hk : MOk N' mm') : (∃ own', Duo w' base L (R.set i ⟨r.b, own', mm', N'⟩) P) ∧ StayP P w w' ∧ Below base w w' := by
  obtain ⟨⟨own', xs', mv', tv', ev', h', ho⟩, hc⟩ := hg
  have hr := List.mem_of_getElem? hi
  refine ⟨⟨own', h.fl.chg hc (fun m hm k hk' hh => hh (h.pr m hm r hr k hk')), fun s hs => ?_, fun j1 j2 n1 n2 hne h1' h2' k hk' => ?_, fun m hm s hs k hk' => ?_, fun k hk' => ⟨by have := (h.free k hk').1; have := hc.size; omega, (h.free k hk').2.1, fun s hs => ?_⟩⟩, fun k hk' => hc.block k (h.free k hk').1 (fun e => e ((h.free k hk').2.2 r hr)), hc.to_below h.fl.here (fun k e => (h.rd r hr).low e)⟩
  · obtain ⟨j, hj⟩ := List.getElem?_of_mem hs
    rcases getSet hi hj with ⟨rfl, rfl⟩ | ⟨hne, hj'⟩
    · exact ⟨⟨xs', mv', tv', ev', h'⟩, hk⟩
    · refine (h.rd s (List.mem_of_getElem? hj')).chg hc (fun k hk' hh => ?_)
      rcases hk' with e | e
      · exact hh (h.rr i j r s (Ne.symm hne) hi hj' k e)
      · have := (h.rd r hr).low hh; omega
  · rcases getSet hi h1' with ⟨rfl, rfl⟩ | ⟨hne1, hj1⟩
    · rcases getSet hi h2' with ⟨rfl, -⟩ | ⟨hne2, hj2⟩
      · exact absurd rfl hne
      · by_cases e : k < w.heap.size
        · exact (ho k e).trans (h.rr j1 j2 r n2 hne hi hj2 k hk')
        · exact absurd ((h.rd n2 (List.mem_of_getElem? hj2)).fresh (by omega)) hk'
    · rcases getSet hi h2' with ⟨rfl, rfl⟩ | ⟨hne2, hj2⟩
      · by_cases e : k < w.heap.size
        · exact h.rr j1 j2 n1 r hne hj1 hi k (by rw [← ho k e]; exact hk')
        · exact (h.rd n1 (List.mem_of_getElem? hj1)).fresh (by omega)
      · exact h.rr j1 j2 n1 n2 hne hj1 hj2 k hk'
  · obtain ⟨j, hj⟩ := List.getElem?_of_mem hs
    rcases getSet hi hj with ⟨rfl, rfl⟩ | ⟨hne, hj'⟩
    · by_cases e : k < w.heap.size
      · exact (ho k e).trans (h.pr m hm r hr k hk')
      · exact absurd (h.fl.freshL hm (by omega)) hk'
    · exact h.pr m hm s (List.mem_of_getElem? hj') k hk'
  · obtain ⟨j, hj⟩ := List.getElem?_of_mem hs
    rcases getSet hi hj with ⟨rfl, rfl⟩ | ⟨hne, hj'⟩
    · exact (ho k (h.free k hk').1).trans ((h.free k hk').2.2 r hr)
    · exact (h.free k hk').2.2 s (List.mem_of_getElem? hj')

theorem step_dp (h : Duo w base L R P) {i : Nat} {m : Mach} (hi : L[i]? = some m) (hN : m.N < 1000000000) (z : Int) :
    Calls Tryz.prog 13 #[.pointer (some ⟨m.b, 0, none⟩), .int .i64 z] w fun r w' => r = .returned (.bool (m.mm.step z).1) ∧ (∃ own', Duo w' base (L.set i ⟨m.b, own', (m.mm.step z).2, m.N + 1⟩) R P) ∧ StayP P w w' ∧ Below base w w' := by
  obtain ⟨⟨xs, mv, tv, ev, hm⟩, hk⟩ := h.fl.each m (List.mem_of_getElem? hi)
  refine (step_any hm hk hN z).mono ?_
  rintro r w' ⟨rfl, hg⟩
  exact ⟨rfl, h.goP hi hg (hk.step z)⟩
theorem flush_dp (h : Duo w base L R P) {i : Nat} {m : Mach} (hi : L[i]? = some m) (z : Int) :
    Calls Tryz.prog 15 #[.pointer (some ⟨m.b, 0, none⟩), .int .i64 z] w fun r w' => r = .returned (.bool (m.mm.flush z).1) ∧ (∃ own', Duo w' base (L.set i ⟨m.b, own', (m.mm.flush z).2, m.N⟩) R P) ∧ StayP P w w' ∧ Below base w w' := by
  obtain ⟨⟨xs, mv, tv, ev, hm⟩, hk⟩ := h.fl.each m (List.mem_of_getElem? hi)
  refine (flush_any hm hk z).mono ?_
  rintro r w' ⟨rfl, hg⟩
  exact ⟨rfl, h.goP hi hg (hk.flush z)⟩
theorem step_dr (h : Duo w base L R P) {i : Nat} {m : Mach} (hi : R[i]? = some m) (hN : m.N < 1000000000) (z : Int) :
    Calls Tryz.prog 14 #[.pointer (some ⟨m.b, 0, none⟩), .int .i64 z] w fun r w' => r = .returned (.bool (m.mm.step z).1) ∧ (∃ own', Duo w' base L (R.set i ⟨m.b, own', (m.mm.step z).2, m.N + 1⟩) P) ∧ StayP P w w' ∧ Below base w w' := by
  obtain ⟨⟨xs, mv, tv, ev, hm⟩, hk⟩ := h.rd m (List.mem_of_getElem? hi)
  refine (rstep_any hm hk hN z).mono ?_
  rintro r w' ⟨rfl, hg⟩
  exact ⟨rfl, h.goR hi hg (hk.step z)⟩
theorem flush_dr (h : Duo w base L R P) {i : Nat} {m : Mach} (hi : R[i]? = some m) (z : Int) :
    Calls Tryz.prog 16 #[.pointer (some ⟨m.b, 0, none⟩), .int .i64 z] w fun r w' => r = .returned (.bool (m.mm.flush z).1) ∧ (∃ own', Duo w' base L (R.set i ⟨m.b, own', (m.mm.flush z).2, m.N⟩) P) ∧ StayP P w w' ∧ Below base w w' := by
  obtain ⟨⟨xs, mv, tv, ev, hm⟩, hk⟩ := h.rd m (List.mem_of_getElem? hi)
  refine (rflush_any hm hk z).mono ?_
  rintro r w' ⟨rfl, hg⟩
  exact ⟨rfl, h.goR hi hg (hk.flush z)⟩
theorem copy_dp (h : Duo w base L R P) {i : Nat} {m : Mach} (hi : L[i]? = some m) (hN : m.N ≤ 1000000000) :
    Calls Tryz.prog 17 #[.pointer (some ⟨m.b, 0, none⟩)] w fun e w' => ∃ b' own', e = .returned (.pointer (some ⟨b', 0, none⟩)) ∧ Duo w' base (L ++ [⟨b', own', m.mm, m.N⟩]) R P ∧ Below w.heap.size w w' := by
  obtain ⟨⟨xs, mv, tv, ev, hm⟩, hk⟩ := h.fl.each m (List.mem_of_getElem? hi)
  refine (copy_any hm (hk.mono hN)).mono ?_
  rintro e w' ⟨b', own', ys, mv', tv', ev', rfl, h1, h2, h3⟩
  have hd := h.below h3
  refine ⟨b', own', rfl, ⟨h.fl.copied h3 hi h1 h2, hd.rd, h.rr, fun n hn r hr k hk' => ?_, fun k hk' => ⟨(hd.free k hk').1, fun n hn => ?_, (h.free k hk').2.2⟩⟩, h3⟩
  rcases List.mem_append.1 hn with e | e
  · exact h.pr n e r hr k hk'
  · rw [List.mem_singleton.1 e] at hk'
    rcases Nat.lt_or_ge k w.heap.size with q | q
    · have e2 := h2 k q
      refine h.pr m (List.mem_of_getElem? hi) r hr k (fun e3 => hk' ?_)
      show own' k = 0
      rw [e2, if_neg (by omega)]
    · exact (h.rd r hr).fresh q
  · rcases List.mem_append.1 hn with e | e
    · exact (h.free k hk').2.1 n e
    · rw [List.mem_singleton.1 e]
      show own' k = 0
      rw [h2 k (h.free k hk').1]
      have := (h.free k hk').2.1 m (List.mem_of_getElem? hi)
      rw [if_neg (by omega)]
theorem copy_dr (h : Duo w base L R P) {i : Nat} {m : Mach} (hi : R[i]? = some m) (hN : m.N ≤ 1000000000) :
    Calls Tryz.prog 18 #[.pointer (some ⟨m.b, 0, none⟩)] w fun e w' => ∃ b' own', e = .returned (.pointer (some ⟨b', 0, none⟩)) ∧ Duo w' base L (R ++ [⟨b', own', m.mm, m.N⟩]) P ∧ Below w.heap.size w w' := by
  obtain ⟨⟨xs, mv, tv, ev, hm⟩, hk⟩ := h.rd m (List.mem_of_getElem? hi)
  refine (rcopy_any hm (hk.mono hN)).mono ?_
  rintro e w' ⟨b', own', ys, mv', tv', ev', rfl, h1, h2, h3⟩
  have hd := h.below h3
  refine ⟨b', own', rfl, ⟨hd.fl, fun s hs => ?_, fun j1 j2 n1 n2 hne hj1 hj2 k hk' => ?_, fun n hn s hs k hk' => ?_, fun k hk' => ⟨(hd.free k hk').1, (h.free k hk').2.1, fun s hs => ?_⟩⟩, h3⟩
  · rcases List.mem_append.1 hs with e | e
    · exact hd.rd s e
    · rw [List.mem_singleton.1 e]; exact ⟨⟨ys, mv', tv', ev', h1⟩, hk⟩
  · rcases getSnoc hj1 with ⟨l1, e1⟩ | ⟨l1, rfl⟩
    · rcases getSnoc hj2 with ⟨l2, e2⟩ | ⟨l2, rfl⟩
      · exact h.rr j1 j2 n1 n2 hne e1 e2 k hk'
      · rcases Nat.lt_or_ge k w.heap.size with q | q
        · exact absurd (h2 k q) hk'
        · exact (h.rd n1 (List.mem_of_getElem? e1)).fresh q
    · rcases getSnoc hj2 with ⟨l2, e2⟩ | ⟨l2, rfl⟩
      · rcases Nat.lt_or_ge k w.heap.size with q | q
        · exact h2 k q
        · exact absurd ((h.rd n2 (List.mem_of_getElem? e2)).fresh q) hk'
      · omega
  · rcases List.mem_append.1 hs with e | e
    · exact h.pr n hn s e k hk'
    · rw [List.mem_singleton.1 e]
      rcases Nat.lt_or_ge k w.heap.size with q | q
      · exact h2 k q
      · exact absurd (h.fl.freshL hn q) hk'
  · rcases List.mem_append.1 hs with e | e
    · exact (h.free k hk').2.2 s e
    · rw [List.mem_singleton.1 e]
      exact h2 k (h.free k hk').1
end Go.Proofs.YthmmbldhbdnfpaaGreatDoor

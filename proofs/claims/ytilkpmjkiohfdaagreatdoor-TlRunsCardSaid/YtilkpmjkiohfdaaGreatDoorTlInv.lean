/- What is so of the locks in the fold of what threads do: a thread has a stripe just if its lock says so. No program in sight. -/
import Derived.Test.YtilkpmjkiohfdaaGreatDoorTlLaw
namespace Go.Proofs.YtilkpmjkiohfdaaGreatDoor

structure LkInv (w : TW) : Prop where
  held : ∀ (n : Nat) t (s : Nat), w.ths[n]? = some t → s < 16 → (t.held.testBit s = true ↔ w.locks s = 2 * n + 1)
  old : ∀ (n : Nat) t (s : Nat), w.ths[n]? = some t → s < 16 → t.held.testBit s = true → t.old s % 2 = 0
  idle : ∀ (n : Nat) t, w.ths[n]? = some t → t.phase = 0 ∨ t.phase = 1 → t.held = 0

theorem LkInv.init (words threads : Nat) : LkInv (TW.init words threads) := by
  have key : ∀ (n : Nat) t, (TW.init words threads).ths[n]? = some t → t = Th.none := fun n t h => by
    simp only [TW.init, List.getElem?_replicate] at h
    split at h
    · cases h; rfl
    · cases h
  refine ⟨fun n t s h hs => ?_, fun n t s h hs hb => ?_, fun n t h _ => ?_⟩
  · rw [key n t h]; simp [Th.none, TW.init]; omega
  · rw [key n t h] at hb; simp [Th.none] at hb
  · rw [key n t h]; rfl

theorem LkInv.turn {w w' : TW} (h : LkInv w) {n : Nat} {t' : Th} (hths : w'.ths = w.ths.set n t') (hn : ∀ s, s < 16 → (t'.held.testBit s = true ↔ w'.locks s = 2 * n + 1))
    (hl : ∀ s, s < 16 → w'.locks s ≠ w.locks s → (w.locks s = 2 * n + 1 ∨ w.locks s % 2 = 0) ∧ (w'.locks s = 2 * n + 1 ∨ w'.locks s % 2 = 0)) (ho : ∀ s, s < 16 → t'.held.testBit s = true → t'.old s % 2 = 0) (hi : t'.phase = 0 ∨ t'.phase = 1 → t'.held = 0) : LkInv w' := by
  have get : ∀ (k : Nat) u, w'.ths[k]? = some u → k = n ∧ u = t' ∨ k ≠ n ∧ w.ths[k]? = some u := fun k u hu => by
    rw [hths, List.getElem?_set] at hu
    split at hu
    · rename_i e
      split at hu
      · cases hu; exact .inl ⟨e.symm, rfl⟩
      · cases hu
    · rename_i e
      exact .inr ⟨fun q => e q.symm, hu⟩
  refine ⟨fun k u s hu hs => ?_, fun k u s hu hs hb => ?_, fun k u hu hp => ?_⟩
  · rcases get k u hu with ⟨rfl, rfl⟩ | ⟨hk, hu⟩
    · exact hn s hs
    · rw [h.held k u s hu hs]
      by_cases e : w'.locks s = w.locks s
      · rw [e]
      · obtain ⟨h1, h2⟩ := hl s hs e
        constructor
        · intro q; omega
        · intro q; omega
  · rcases get k u hu with ⟨rfl, rfl⟩ | ⟨hk, hu⟩
    · exact ho s hs hb
    · exact h.old k u s hu hs hb
  · rcases get k u hu with ⟨rfl, rfl⟩ | ⟨hk, hu⟩
    · exact hi hp
    · exact h.idle k u hu hp

/-- the thread keeps its locks -/
theorem LkInv.same {w w' : TW} (h : LkInv w) {n : Nat} {t t' : Th} (ht : w.ths[n]? = some t) (hths : w'.ths = w.ths.set n t') (hl : w'.locks = w.locks) (hh : t'.held = t.held) (ho : t'.old = t.old) (hi : t'.phase = 0 ∨ t'.phase = 1 → t'.held = 0) : LkInv w' :=
  h.turn hths (fun s hs => by rw [hh, hl]; exact h.held n t s ht hs) (fun s hs e => absurd (by rw [hl]) e) (fun s hs hb => by rw [ho]; exact h.old n t s ht hs (by rw [← hh]; exact hb)) hi
theorem LkInv.evs {w w' : TW} (h : LkInv w) (hths : w'.ths = w.ths) (hl : w'.locks = w.locks) : LkInv w' :=
  ⟨fun n t s ht hs => by rw [hl]; exact h.held n t s (by rw [← hths]; exact ht) hs, fun n t s ht hs hb => h.old n t s (by rw [← hths]; exact ht) hs hb, fun n t ht hp => h.idle n t (by rw [← hths]; exact ht) hp⟩

theorem LkInv.abort {w w' : TW} (h : LkInv w) {n m : Nat} {t : Th} (ht : w.ths[n]? = some t) (hm : m = t.held) {say : Nat → Int} (hs : ∀ s, s < 16 → m.testBit s = true → say s % 2 = 0) (hths : w'.ths = w.ths.set n Th.none) (hl : w'.locks = freed m say w.locks) : LkInv w' := by
  subst hm
  refine h.turn hths (fun s hs' => ?_) (fun s hs' e => ?_) (fun s _ hb => by simp [Th.none] at hb) (fun _ => rfl)
  · have h1 := h.held n t s ht hs'
    rw [hl]
    unfold freed
    constructor
    · intro q; simp [Th.none] at q
    · intro q
      split at q
      · rename_i hc; have := hs s hs' hc.2; omega
      · rename_i hc; exact absurd ⟨hs', h1.2 q⟩ hc
  · have h1 := h.held n t s ht hs'
    rw [hl] at e ⊢
    unfold freed at e ⊢
    split at e
    · rename_i hc
      rw [if_pos hc]
      exact ⟨.inl (h1.1 hc.2), .inr (hs s hs' hc.2)⟩
    · exact absurd rfl e

theorem testBit_set (m s k : Nat) : (m ||| 1 <<< s).testBit k = (m.testBit k || decide (k = s)) := by
  rw [Nat.testBit_or, Nat.one_shiftLeft, Nat.testBit_two_pow]
  simp [eq_comm]

theorem LkInv.lock {w : TW} (h : LkInv w) {n : Nat} {t t0 : Th} (ht0 : w.ths[n]? = some t0) (hh : t.held = t0.held) (ho : t.old = t0.old) (hp : t.phase = 2) : LkInv (w.lock n t) := by
  have hold : ∀ k, k < 16 → t.held.testBit k = true → t.old k % 2 = 0 := fun k hk hb => by rw [ho]; exact h.old n t0 k ht0 hk (by rw [← hh]; exact hb)
  unfold TW.lock
  cases hw : wanted t with
  | some s =>
    simp only
    split
    · exact h.abort ht0 hh hold rfl rfl
    · rename_i hlk
      have hev : w.locks s % 2 = 0 := by unfold isLocked at hlk; simp at hlk; omega
      refine h.turn rfl (fun k hk => ?_) (fun k hk e => ?_) (fun k hk hb => ?_) (fun q => by simp only [hp] at q; omega)
      · simp only [testBit_set, upd_at]
        by_cases e : k = s
        · simp [e]
        · simp only [e, decide_false, Bool.or_false, if_false]
          rw [hh]; exact h.held n t0 k ht0 hk
      · simp only [upd_at] at e ⊢
        by_cases e2 : k = s
        · subst e2
          rw [if_pos rfl]
          exact ⟨.inr hev, .inl rfl⟩
        · rw [if_neg e2] at e; exact absurd rfl e
      · simp only [testBit_set, upd_at] at hb ⊢
        by_cases e2 : k = s
        · subst e2; rw [if_pos rfl]; exact hev
        · rw [if_neg e2]
          simp only [e2, decide_false, Bool.or_false] at hb
          exact hold k hk hb
  | none =>
    simp only
    split
    · exact h.abort ht0 hh hold rfl rfl
    · exact h.same ht0 rfl rfl hh ho (fun q => by simp at q)

theorem LkInv.step {w : TW} {m k i : Nat} (h : LkInv w) (ht : TOk w m k i) {n : Nat} {t : Th} (ht0 : w.ths[n]? = some t) : LkInv (w.step n t) := by
  have hold : ∀ k, k < 16 → t.held.testBit k = true → t.old k % 2 = 0 := fun k hk hb => h.old n t k ht0 hk hb
  unfold TW.step
  split
  · rename_i hp
    split
    · have h0 := h.idle n t ht0 (.inr hp)
      refine h.turn rfl (fun s hs => ?_) (fun s _ e => absurd rfl e) (fun s _ hb => by simp [Th.none] at hb) (fun _ => rfl)
      have h1 := h.held n t s ht0 hs
      rw [h0] at h1
      simpa [Th.none] using h1
    · exact h.lock ht0 rfl rfl rfl
  · split
    · rename_i hp; exact h.lock ht0 rfl rfl hp
    · split
      · rename_i hp3
        unfold TW.back
        split
        · rename_i c l hlog
          exact h.same ht0 rfl rfl rfl rfl (fun q => by simp only [hp3] at q; omega)
        · exact h.abort ht0 rfl (fun s _ _ => by omega) rfl rfl
      · exact h

theorem LkInv.doT {w : TW} {m k i : Nat} (h : LkInv w) (ht : TOk w m k i) {n : Nat} {t : Th} (ht0 : w.ths[n]? = some t) (o : Tx) : LkInv (w.doT n t o) := by
  have hold : ∀ k, k < 16 → t.held.testBit k = true → t.old k % 2 = 0 := fun k hk hb => h.old n t k ht0 hk hb
  unfold TW.doT
  split
  · rename_i hc
    have h0 := h.idle n t ht0 (.inl hc.2)
    unfold TW.begin
    refine h.turn rfl (fun s hs => ?_) (fun s _ e => absurd rfl e) (fun s _ hb => by simp [Th.none] at hb) (fun _ => rfl)
    have h1 := h.held n t s ht0 hs
    rw [h0] at h1
    simpa [Th.none] using h1
  · split
    · rename_i hc
      have h0 := h.idle n t ht0 (.inr hc.2.1)
      unfold TW.read
      split
      · exact h.evs rfl rfl
      · split
        · exact h.abort ht0 rfl hold rfl rfl
        · exact h.same ht0 rfl rfl rfl rfl (fun _ => h0)
    · split
      · rename_i hc
        have h0 := h.idle n t ht0 (.inr hc.2.1)
        unfold TW.write
        split
        · exact h.same ht0 rfl rfl rfl rfl (fun _ => h0)
        · split
          · exact h.same ht0 rfl rfl rfl rfl (fun _ => h0)
          · exact h
      · split
        · exact h.step ht ht0
        · split
          · exact h.abort ht0 rfl hold rfl rfl
          · exact h
theorem LkInv.do_ {w : TW} {m k i : Nat} (h : LkInv w) (ht : TOk w m k i) (o : Tx) : LkInv (w.do_ o) := by
  unfold TW.do_
  split
  · exact h
  · split
    · exact h
    · rename_i t ht0
      exact h.doT ht ht0 o
theorem LkInv.fold {m n : Nat} (l : List Tx) : ∀ {w : TW} {i : Nat}, LkInv w → TOk w m n i → LkInv (l.foldl TW.do_ w) := by
  induction l with
  | nil => intro w i h _; exact h
  | cons o l ih => intro w i h ht; exact ih (h.do_ ht o) (ht.do_ o)
/-- the numbers in the locks are small -/
structure LkB (w : TW) : Prop where
  lo : ∀ s, s < 16 → 0 ≤ w.locks s ∧ w.locks s ≤ 1000000
  ol : ∀ (n : Nat) t (s : Nat), w.ths[n]? = some t → s < 16 → t.held.testBit s = true → 0 ≤ t.old s ∧ t.old s ≤ 1000000

theorem LkB.init (words threads : Nat) : LkB (TW.init words threads) := by
  refine ⟨fun s _ => by simp [TW.init], fun n t s h hs hb => ?_⟩
  simp only [TW.init, List.getElem?_replicate] at h
  split at h
  · cases h; simp [Th.none] at hb
  · cases h
theorem LkB.turn {w w' : TW} (h : LkB w) {n : Nat} {t' : Th} (hths : w'.ths = w.ths.set n t') (hl : ∀ s, s < 16 → 0 ≤ w'.locks s ∧ w'.locks s ≤ 1000000) (ho : ∀ s, s < 16 → t'.held.testBit s = true → 0 ≤ t'.old s ∧ t'.old s ≤ 1000000) : LkB w' := by
  refine ⟨hl, fun k u s hu hs hb => ?_⟩
  rw [hths, List.getElem?_set] at hu
  split at hu
  · split at hu
    · cases hu; exact ho s hs hb
    · cases hu
  · exact h.ol k u s hu hs hb
theorem LkB.evs {w w' : TW} (h : LkB w) (hths : w'.ths = w.ths) (hl : w'.locks = w.locks) : LkB w' := ⟨fun s hs => by rw [hl]; exact h.lo s hs, fun n t s ht => h.ol n t s (by rw [← hths]; exact ht)⟩
theorem freed_b {m : Nat} {say locks : Nat → Int} (hs : ∀ s, s < 16 → m.testBit s = true → 0 ≤ say s ∧ say s ≤ 1000000) (hl : ∀ s, s < 16 → 0 ≤ locks s ∧ locks s ≤ 1000000) : ∀ s, s < 16 → 0 ≤ freed m say locks s ∧ freed m say locks s ≤ 1000000 := fun s h => by
  unfold freed
  split
  · rename_i hc; exact hs s h hc.2
  · exact hl s h
theorem LkB.lock {w : TW} (h : LkB w) {n : Nat} {t t0 : Th} (ht0 : w.ths[n]? = some t0) (hh : t.held = t0.held) (ho : t.old = t0.old) (hn : n ≤ 400000) : LkB (w.lock n t) := by
  have hold : ∀ k, k < 16 → t.held.testBit k = true → 0 ≤ t.old k ∧ t.old k ≤ 1000000 := fun k hk hb => by rw [ho]; exact h.ol n t0 k ht0 hk (by rw [← hh]; exact hb)
  unfold TW.lock
  cases hw : wanted t with
  | some s =>
    simp only
    split
    · exact h.turn rfl (freed_b hold h.lo) (fun s _ hb => by simp [Th.none] at hb)
    · refine h.turn rfl (fun k hk => ?_) (fun k hk hb => ?_)
      · simp only [upd_at]
        split
        · omega
        · exact h.lo k hk
      · simp only [testBit_set, upd_at] at hb ⊢
        by_cases e2 : k = s
        · subst e2; rw [if_pos rfl]; exact h.lo k hk
        · rw [if_neg e2]
          simp only [e2, decide_false, Bool.or_false] at hb
          exact hold k hk hb
  | none =>
    simp only
    split
    · exact h.turn rfl (freed_b hold h.lo) (fun s _ hb => by simp [Th.none] at hb)
    · exact h.turn rfl h.lo hold
theorem LkB.step {w : TW} {m k i : Nat} (h : LkB w) (ht : TOk w m k i) (hi : i ≤ 400000) {n : Nat} {t : Th} (ht0 : w.ths[n]? = some t) (hn : n ≤ 400000) : LkB (w.step n t) := by
  have hold : ∀ k, k < 16 → t.held.testBit k = true → 0 ≤ t.old k ∧ t.old k ≤ 1000000 := fun k hk hb => h.ol n t k ht0 hk hb
  unfold TW.step
  split
  · split
    · exact h.turn rfl h.lo (fun s _ hb => by simp [Th.none] at hb)
    · exact h.lock ht0 rfl rfl hn
  · split
    · exact h.lock ht0 rfl rfl hn
    · split
      · unfold TW.back
        split
        · exact h.turn rfl h.lo hold
        · have h1 := (ht.th n t ht0).now0
          have h2 := (ht.th n t ht0).now1
          exact h.turn rfl (freed_b (fun s _ _ => by omega) h.lo) (fun s _ hb => by simp [Th.none] at hb)
      · exact h
theorem LkB.doT {w : TW} {m k i : Nat} (h : LkB w) (ht : TOk w m k i) (hi : i ≤ 400000) {n : Nat} {t : Th} (ht0 : w.ths[n]? = some t) (hn : n ≤ 400000) (o : Tx) : LkB (w.doT n t o) := by
  have hold : ∀ k, k < 16 → t.held.testBit k = true → 0 ≤ t.old k ∧ t.old k ≤ 1000000 := fun k hk hb => h.ol n t k ht0 hk hb
  unfold TW.doT
  split
  · exact h.turn rfl h.lo (fun s _ hb => by simp [Th.none] at hb)
  · split
    · unfold TW.read
      split
      · exact h.evs rfl rfl
      · split
        · exact h.turn rfl (freed_b hold h.lo) (fun s _ hb => by simp [Th.none] at hb)
        · exact h.turn rfl h.lo hold
    · split
      · unfold TW.write
        split
        · exact h.turn rfl h.lo hold
        · split
          · exact h.turn rfl h.lo hold
          · exact h
      · split
        · exact h.step ht hi ht0 hn
        · split
          · exact h.turn rfl (freed_b hold h.lo) (fun s _ hb => by simp [Th.none] at hb)
          · exact h
theorem LkB.do_ {w : TW} {m k i : Nat} (h : LkB w) (ht : TOk w m k i) (hi : i ≤ 400000) (hk : k ≤ 400000) (o : Tx) : LkB (w.do_ o) := by
  unfold TW.do_
  split
  · exact h
  · split
    · exact h
    · rename_i t ht0
      have := (List.getElem?_eq_some_iff.1 ht0).1
      have := ht.ths
      exact h.doT ht hi ht0 (by omega) o
theorem LkB.fold {m n : Nat} (hn : n ≤ 400000) (l : List Tx) : ∀ {w : TW} {i : Nat}, LkB w → TOk w m n i → i + l.length ≤ 400000 → LkB (l.foldl TW.do_ w) := by
  induction l with
  | nil => intro w i h _ _; exact h
  | cons o l ih => intro w i h ht hl; rw [List.length_cons] at hl; exact ih (h.do_ ht (by omega) hn o) (ht.do_ o) (by omega)
theorem LkB.run (words threads : Nat) (l : List Tx) (h1 : threads ≤ 400000) (h2 : l.length ≤ 400000) : LkB (runT words threads l) := LkB.fold h1 l (LkB.init words threads) (TOk.init words threads) (by omega)

/-- what newer asks of a thread's locks -/
structure NwOk (n : Nat) (locks : Nat → Int) (t : Th) : Prop where
  held : ∀ s, s < 16 → (t.held.testBit s = true ↔ locks s = 2 * n + 1)
  even : ∀ s, s < 16 → t.held.testBit s = true → t.old s % 2 = 0
  old : ∀ s, s < 16 → t.held.testBit s = true → 0 ≤ t.old s ∧ t.old s ≤ 1000000
  lo : ∀ s, s < 16 → 0 ≤ locks s ∧ locks s ≤ 1000000
theorem NwOk.of {w : TW} (h : LkInv w) (hb : LkB w) {n : Nat} {t : Th} (ht : w.ths[n]? = some t) : NwOk n w.locks t :=
  ⟨fun s hs => h.held n t s ht hs, fun s hs b => h.old n t s ht hs b, fun s hs b => hb.ol n t s ht hs b, hb.lo⟩
theorem NwOk.same {n : Nat} {locks : Nat → Int} {t u : Th} (h : NwOk n locks t) (h1 : u.held = t.held) (h2 : u.old = t.old) : NwOk n locks u := by
  constructor
  · rw [h1]; exact h.held
  · rw [h1, h2]; exact h.even
  · rw [h1, h2]; exact h.old
  · exact h.lo

theorem LkInv.run (words threads : Nat) (l : List Tx) : LkInv (runT words threads l) := LkInv.fold l (LkInv.init words threads) (TOk.init words threads)
end Go.Proofs.YtilkpmjkiohfdaaGreatDoor

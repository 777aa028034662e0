/- What is so of the words, the threads and the events of tl2.Run's fold: they keep their number, word 0 stays 0, the events go on, and what is no thread's or no kind is nothing. -/
import Derived.Test.YtilkpmjkiohfdaaGreatDoorTlSpec
namespace Go.Proofs.YtilkpmjkiohfdaaGreatDoor

structure ThOk (t : Th) (m i : Nat) : Prop where
  ph : t.phase = 0 ∨ t.phase = 1 ∨ t.phase = 2 ∨ t.phase = 3
  log : ∀ c ∈ t.log, 1 ≤ c.1 ∧ c.1 < m
  len : t.log.length ≤ 64
  rd : t.reads < 65536
  hd : t.held < 65536
  now0 : 0 ≤ t.now
  now1 : t.now ≤ i

structure TOk (w : TW) (m n i : Nat) : Prop where
  mem : w.mem.length = m
  ths : w.ths.length = n
  zero : w.mem[0]? = some 0
  ck0 : 0 ≤ w.clock
  ck1 : w.clock ≤ i
  evs : w.evs.length ≤ i
  th : ∀ (k : Nat) t, w.ths[k]? = some t → ThOk t m i

theorem ThOk.none (m i : Nat) : ThOk Th.none m i := ⟨.inl rfl, by simp [Th.none], by simp [Th.none], by simp [Th.none], by simp [Th.none], by simp [Th.none], by simp [Th.none]⟩
theorem ThOk.mono {t : Th} {m i j : Nat} (h : ThOk t m i) (hij : i ≤ j) : ThOk t m j := ⟨h.ph, h.log, h.len, h.rd, h.hd, h.now0, by have := h.now1; omega⟩

theorem TOk.init (words threads : Nat) : TOk (TW.init words threads) (words + 1) threads 0 :=
  ⟨by simp [TW.init], by simp [TW.init], by simp [TW.init], by simp [TW.init], by simp [TW.init], by simp [TW.init], fun k t h => by
    simp only [TW.init, List.getElem?_replicate] at h
    split at h
    · cases h; exact ThOk.none _ _
    · cases h⟩

theorem TOk.lt {w : TW} {m n i : Nat} (h : TOk w m n i) : 0 < m := by
  have := h.zero
  have h2 := (List.getElem?_eq_some_iff.1 this).1
  have := h.mem
  omega

theorem set_th {w : TW} {m n i : Nat} (h : TOk w m n i) (k : Nat) {t : Th} (ht : ThOk t m (i + 1)) : ∀ (j : Nat) u, (w.ths.set k t)[j]? = some u → ThOk u m (i + 1) := by
  intro j u hu
  rw [List.getElem?_set] at hu
  split at hu
  · split at hu
    · cases hu; exact ht
    · cases hu
  · exact (h.th j u hu).mono (by omega)

theorem stripeN_lt (a : Int) : stripeN a < 16 := by unfold stripeN; omega

theorem bit_lt {m s : Nat} (hm : m < 65536) (hs : s < 16) : m ||| 1 <<< s < 65536 := by
  have h2 : 1 <<< s < 2 ^ 16 := by
    rw [Nat.one_shiftLeft]
    exact Nat.pow_lt_pow_right (by decide) hs
  exact Nat.or_lt_two_pow (n := 16) hm h2

theorem place_at {l : List (Int × Int)} {a : Int} (h : place l a < l.length) : ∃ c, l[place l a]? = some c ∧ c.1 = a := by
  refine ⟨l[place l a], List.getElem?_eq_getElem h, ?_⟩
  have := List.findIdx_getElem (p := fun c : Int × Int => c.1 == a) (xs := l) (w := h)
  simp only [beq_iff_eq] at this
  exact this

theorem there_iff {w : TW} {a : Int} : w.there a = true ↔ 1 ≤ a ∧ a < w.mem.length := by simp [TW.there]

theorem TOk.abort {w : TW} {m n i : Nat} (h : TOk w m n i) (k : Nat) (t : Th) : TOk (w.abort k t) m n (i + 1) :=
  ⟨h.mem, by simp [TW.abort, h.ths], h.zero, h.ck0, by have := h.ck1; simp only [TW.abort]; omega, by have := h.evs; simp [TW.abort]; omega, set_th h k (ThOk.none _ _)⟩

theorem wanted_lt {t : Th} {s : Nat} (h : wanted t = some s) : s < 16 := by
  have := List.mem_of_find?_eq_some h
  simpa using this

theorem TOk.lock {w : TW} {m n i : Nat} (h : TOk w m n i) (k : Nat) {t : Th} (ht : ThOk t m i) : TOk (w.lock k t) m n (i + 1) := by
  unfold TW.lock
  cases hw : wanted t with
  | some s =>
    simp only
    split
    · exact h.abort k t
    · refine ⟨h.mem, by simp [h.ths], h.zero, h.ck0, by have := h.ck1; simp only; omega, by have := h.evs; simp only; omega, set_th h k ?_⟩
      exact ⟨ht.ph, ht.log, ht.len, ht.rd, bit_lt ht.hd (wanted_lt hw), ht.now0, by have := ht.now1; simp only; omega⟩
  | none =>
    simp only
    split
    · have := h.abort k t
      exact ⟨this.mem, this.ths, this.zero, by have := h.ck0; simp [TW.abort]; omega, by have := h.ck1; simp [TW.abort]; omega, this.evs, this.th⟩
    · refine ⟨h.mem, by simp [h.ths], h.zero, by have := h.ck0; simp only; omega, by have := h.ck1; simp only; omega, by have := h.evs; simp; omega, set_th h k ?_⟩
      exact ⟨.inr (.inr (.inr rfl)), ht.log, ht.len, ht.rd, ht.hd, by have := h.ck0; simp only; omega, by have := h.ck1; simp only; omega⟩

theorem TOk.keep {w : TW} {m n i : Nat} (h : TOk w m n i) : TOk w m n (i + 1) :=
  ⟨h.mem, h.ths, h.zero, h.ck0, by have := h.ck1; omega, by have := h.evs; omega, fun k t hk => (h.th k t hk).mono (by omega)⟩

theorem TOk.step {w : TW} {m n i : Nat} (h : TOk w m n i) (k : Nat) {t : Th} (ht : ThOk t m i) : TOk (w.step k t) m n (i + 1) := by
  unfold TW.step
  split
  · split
    · exact ⟨h.mem, by simp [h.ths], h.zero, h.ck0, by have := h.ck1; simp only; omega, by have := h.evs; simp; omega, set_th h k (ThOk.none _ _)⟩
    · exact h.lock k ⟨.inr (.inr (.inl rfl)), ht.log, ht.len, ht.rd, ht.hd, ht.now0, ht.now1⟩
  · split
    · exact h.lock k ht
    · split
      · unfold TW.back
        split
        · rename_i c l hl
          have hc := ht.log c (by rw [hl]; simp)
          refine ⟨by simp [h.mem], by simp [h.ths], ?_, h.ck0, by have := h.ck1; simp only; omega, by have := h.evs; simp only; omega, set_th h k ?_⟩
          · simp only
            rw [List.getElem?_set_ne (by omega)]
            exact h.zero
          · exact ⟨ht.ph, fun d hd => ht.log d (by rw [hl]; exact List.mem_cons_of_mem _ hd), by have := ht.len; rw [hl] at this; simp at this ⊢; omega, ht.rd, ht.hd, ht.now0, by have := ht.now1; simp only; omega⟩
        · exact ⟨h.mem, by simp [h.ths], h.zero, h.ck0, by have := h.ck1; simp only; omega, by have := h.evs; simp only; omega, set_th h k (ThOk.none _ _)⟩
      · exact h.keep

theorem TOk.doT {w : TW} {m n i : Nat} (h : TOk w m n i) (k : Nat) {t : Th} (ht : ThOk t m i) (o : Tx) : TOk (w.doT k t o) m n (i + 1) := by
  unfold TW.doT
  split
  · exact ⟨h.mem, by simp [TW.begin, h.ths], h.zero, h.ck0, by have := h.ck1; simp only [TW.begin]; omega, by have := h.evs; simp [TW.begin]; omega,
      set_th h k ⟨.inr (.inl rfl), by simp [Th.none], by simp [Th.none], by simp [Th.none], by simp [Th.none], by simp [Th.none], by simp [Th.none]; omega⟩⟩
  split
  · unfold TW.read
    split
    · exact ⟨h.mem, h.ths, h.zero, h.ck0, by have := h.ck1; simp only; omega, by have := h.evs; simp; omega, fun j u hj => (h.th j u hj).mono (by omega)⟩
    · split
      · exact h.abort k t
      · refine ⟨h.mem, by simp [h.ths], h.zero, h.ck0, by have := h.ck1; simp only; omega, by have := h.evs; simp; omega, set_th h k ?_⟩
        exact ⟨ht.ph, ht.log, ht.len, bit_lt ht.rd (stripeN_lt _), ht.hd, ht.now0, by have := ht.now1; simp only; omega⟩
  split
  · rename_i hc
    have ha := there_iff.1 hc.2.2
    rw [h.mem] at ha
    unfold TW.write
    split
    · rename_i hp
      refine ⟨h.mem, by simp [h.ths], h.zero, h.ck0, by have := h.ck1; simp only; omega, by have := h.evs; simp; omega, set_th h k ?_⟩
      refine ⟨ht.ph, fun c hc' => ?_, by simpa using ht.len, ht.rd, ht.hd, ht.now0, by have := ht.now1; simp only; omega⟩
      rcases List.mem_or_eq_of_mem_set hc' with h1 | rfl
      · exact ht.log c h1
      · exact ha
    · split
      · refine ⟨h.mem, by simp [h.ths], h.zero, h.ck0, by have := h.ck1; simp only; omega, by have := h.evs; simp; omega, set_th h k ?_⟩
        refine ⟨ht.ph, fun c hc' => ?_, by simp; omega, ht.rd, ht.hd, ht.now0, by have := ht.now1; simp only; omega⟩
        simp only [List.mem_append, List.mem_singleton] at hc'
        rcases hc' with h1 | rfl
        · exact ht.log c h1
        · exact ha
      · exact h.keep
  split
  · exact h.step k ht
  split
  · exact h.abort k t
  · exact h.keep

theorem TOk.do_ {w : TW} {m n i : Nat} (h : TOk w m n i) (o : Tx) : TOk (w.do_ o) m n (i + 1) := by
  unfold TW.do_
  split
  · exact h.keep
  · split
    · exact h.keep
    · rename_i t ht
      exact h.doT _ (h.th _ _ ht) o

theorem TOk.fold {m n : Nat} (l : List Tx) : ∀ {w : TW} {i : Nat}, TOk w m n i → TOk (l.foldl TW.do_ w) m n (i + l.length) := by
  induction l with
  | nil => intro w i h; exact h
  | cons o l ih =>
    intro w i h
    have := ih (h.do_ o)
    rwa [show i + 1 + l.length = i + (o :: l).length from by simp; omega] at this

theorem TOk.run (words threads : Nat) (l : List Tx) : TOk (runT words threads l) (words + 1) threads l.length := by
  have := (TOk.init words threads).fold l
  rwa [Nat.zero_add] at this

/-! ### the events go on -/
theorem lock_evs (w : TW) (k : Nat) (t : Th) : ∃ r, (w.lock k t).evs = w.evs ++ r := by
  unfold TW.lock
  cases wanted t with
  | some s =>
    simp only
    split
    · exact ⟨_, rfl⟩
    · exact ⟨[], by simp⟩
  | none =>
    simp only
    split
    · exact ⟨_, rfl⟩
    · exact ⟨_, rfl⟩

theorem do_evs (w : TW) (o : Tx) : ∃ r, (w.do_ o).evs = w.evs ++ r := by
  unfold TW.do_
  split
  · exact ⟨[], by simp⟩
  split
  · exact ⟨[], by simp⟩
  unfold TW.doT
  split
  · exact ⟨_, rfl⟩
  split
  · unfold TW.read
    split
    · exact ⟨_, rfl⟩
    · split
      · exact ⟨_, rfl⟩
      · exact ⟨_, rfl⟩
  split
  · unfold TW.write
    split
    · exact ⟨_, rfl⟩
    · split
      · exact ⟨_, rfl⟩
      · exact ⟨[], by simp⟩
  split
  · unfold TW.step
    split
    · split
      · exact ⟨_, rfl⟩
      · exact lock_evs _ _ _
    · split
      · exact lock_evs _ _ _
      · split
        · unfold TW.back
          split
          · exact ⟨[], by simp⟩
          · exact ⟨[], by simp⟩
        · exact ⟨[], by simp⟩
  split
  · exact ⟨_, rfl⟩
  · exact ⟨[], by simp⟩

theorem fold_evs (l : List Tx) : ∀ (w : TW), ∃ r, (l.foldl TW.do_ w).evs = w.evs ++ r := by
  induction l with
  | nil => intro w; exact ⟨[], by simp⟩
  | cons o l ih =>
    intro w
    obtain ⟨r, hr⟩ := ih (w.do_ o)
    obtain ⟨s, hs⟩ := do_evs w o
    exact ⟨s ++ r, by rw [List.foldl_cons, hr, hs, List.append_assoc]⟩

theorem run_more (words threads : Nat) (l more : List Tx) : ∃ r, (runT words threads (l ++ more)).evs = (runT words threads l).evs ++ r := by
  unfold runT
  rw [List.foldl_append]
  exact fold_evs _ _

/-! ### what is nothing -/
def someTx (threads : Int) (o : Tx) : Bool := decide (0 ≤ o.th ∧ o.th < threads ∧ 1 ≤ o.kind ∧ o.kind ≤ 5)

theorem do_nothing {w : TW} {m n i : Nat} (h : TOk w m n i) {o : Tx} (ho : someTx n o = false) : w.do_ o = w := by
  have ho' : ¬ (0 ≤ o.th ∧ o.th < n ∧ 1 ≤ o.kind ∧ o.kind ≤ 5) := by simpa [someTx] using ho
  unfold TW.do_
  split
  · rfl
  split
  · rfl
  rename_i ht t hk
  have hlt := (List.getElem?_eq_some_iff.1 hk).1
  rw [h.ths] at hlt
  have hn : ¬ (1 ≤ o.kind ∧ o.kind ≤ 5) := fun hc => ho' ⟨by omega, by omega, hc.1, hc.2⟩
  unfold TW.doT
  rw [if_neg (by omega), if_neg (by omega), if_neg (by omega), if_neg (by omega), if_neg (by omega)]

theorem fold_some {m n : Nat} (l : List Tx) : ∀ {w : TW} {i : Nat}, TOk w m n i → l.foldl TW.do_ w = (l.filter (someTx n)).foldl TW.do_ w := by
  induction l with
  | nil => intro w i h; rfl
  | cons o l ih =>
    intro w i h
    rw [List.foldl_cons, List.filter_cons]
    cases ho : someTx n o with
    | true => rw [if_pos rfl, List.foldl_cons]; exact ih (h.do_ o)
    | false => rw [if_neg (by simp), do_nothing h ho]; exact ih h

theorem run_some (words threads : Nat) (l more : List Tx) : runT words threads (l ++ more) = runT words threads (l ++ more.filter (someTx threads)) := by
  unfold runT
  rw [List.foldl_append, List.foldl_append]
  exact fold_some more ((TOk.init words threads).fold l)

end Go.Proofs.YtilkpmjkiohfdaaGreatDoor

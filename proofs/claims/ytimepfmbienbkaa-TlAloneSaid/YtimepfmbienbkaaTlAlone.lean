/- A thread that is alone commits, and its words are written: of tl2.Run's fold, no program in sight. -/
import Derived.Test.YtimepfmbienbkaaTlLaw
namespace Go.Proofs.Ytimepfmbienbkaa

def wr (m : List Int) (l : List (Int × Int)) : List Int := l.foldl (fun m c => m.set c.1.toNat c.2) m

theorem wr_comm (l : List (Int × Int)) : ∀ (m : List Int) (a v : Int), 0 ≤ a → (∀ c ∈ l, 1 ≤ c.1) → (∀ c ∈ l, c.1 ≠ a) → wr (m.set a.toNat v) l = (wr m l).set a.toNat v := by
  induction l with
  | nil => intro m a v _ _ _; rfl
  | cons c l ih =>
    intro m a v ha hp hn
    have h1 := hp c (by simp)
    have h2 := hn c (by simp)
    unfold wr
    simp only [List.foldl_cons]
    rw [List.set_comm _ _ (by omega)]
    exact ih _ a v ha (fun d hd => hp d (by simp [hd])) (fun d hd => hn d (by simp [hd]))

theorem wr_set (l : List (Int × Int)) : ∀ (m : List Int) (p : Nat) (a v : Int), 0 ≤ a → (∀ c ∈ l, 1 ≤ c.1) → (l.map Prod.fst).Nodup → (∃ c, l[p]? = some c ∧ c.1 = a) → wr m (l.set p (a, v)) = (wr m l).set a.toNat v := by
  induction l with
  | nil => intro m p a v _ _ _ h; obtain ⟨c, h, _⟩ := h; simp at h
  | cons c l ih =>
    intro m p a v ha hp hnd hc
    simp only [List.map_cons, List.nodup_cons] at hnd
    cases p with
    | zero =>
      obtain ⟨c', h1, h2⟩ := hc
      simp only [List.getElem?_cons_zero, Option.some.injEq] at h1
      subst h1
      simp only [List.set_cons_zero]
      have hne : ∀ d ∈ l, d.1 ≠ a := fun d hd e => hnd.1 (by rw [h2, ← e]; exact List.mem_map_of_mem hd)
      unfold wr
      simp only [List.foldl_cons]
      rw [h2]
      have e1 := wr_comm l (m.set a.toNat c.2) a v ha (fun d hd => hp d (by simp [hd])) hne
      unfold wr at e1
      rw [← e1, List.set_set]
    | succ p =>
      obtain ⟨c', h1, h2⟩ := hc
      simp only [List.getElem?_cons_succ] at h1
      simp only [List.set_cons_succ]
      exact ih (m.set c.1.toNat c.2) p a v ha (fun d hd => hp d (by simp [hd])) hnd.2 ⟨c', h1, h2⟩

theorem nodup_len : ∀ (n : Nat) (l : List Int), l.Nodup → (∀ a ∈ l, 1 ≤ a ∧ a ≤ n) → l.length ≤ n := by
  intro n
  induction n with
  | zero =>
    intro l _ h
    cases l with
    | nil => simp
    | cons a l => have := h a (by simp); omega
  | succ n ih =>
    intro l hd h
    have h1 := ih (l.erase ((n + 1 : Nat) : Int)) (hd.erase _) (fun a ha => by
      have hm := List.mem_of_mem_erase ha
      have hne : a ≠ ((n + 1 : Nat) : Int) := fun e => by rw [e] at ha; exact (List.Nodup.not_mem_erase hd) ha
      have := h a hm
      omega)
    have h2 := List.length_erase (a := ((n + 1 : Nat) : Int)) (l := l)
    split at h2 <;> omega

/-- where the one thread is while it reads and writes -/
structure AOk (w : TW) (words : Nat) (L : List (Int × Int)) (r : Nat) : Prop where
  mem : w.mem = List.replicate (words + 1) 0
  ck : w.clock = 0
  locks : w.locks = fun _ => 0
  th : w.ths = [⟨1, 0, r, L, 0, fun _ => 0, 0⟩]
  keys : (L.map Prod.fst).Nodup
  rng : ∀ c ∈ L, 1 ≤ c.1 ∧ c.1 ≤ words
  evs : w.evs ≠ []

def aloneOk (words : Int) (o : Tx) : Bool := decide (1 ≤ o.at_ ∧ o.at_ ≤ words ∧ (o.kind = 2 ∨ o.kind = 3))
def beginTx : Tx := ⟨0, 1, 0, 0⟩
def stepTx : Tx := ⟨0, 4, 0, 0⟩
def zeroTh (o : Tx) : Tx := { o with th := 0 }
def aloneTx (words : Int) (l : List Tx) : List Tx := (l.filter (aloneOk words)).map zeroTh
def aloneWant (words : Nat) (l : List Tx) : List Int := (l.filter (aloneOk words)).foldl (fun m o => if o.kind = 3 then m.set o.at_.toNat o.v else m) (List.replicate (words + 1) 0)
def aloneWrites (words : Int) (l : List Tx) : Bool := (l.filter (aloneOk words)).any (fun o => o.kind == 3)

theorem alone_begin (words : Nat) : AOk ((TW.init words 1).do_ beginTx) words [] 0 :=
  ⟨rfl, rfl, rfl, rfl, by simp, by simp, by simp [TW.init, TW.do_, TW.doT, TW.begin, beginTx, Th.none]⟩

theorem alone_one {w : TW} {words : Nat} {L : List (Int × Int)} {r : Nat} (h : AOk w words L r) (hw : words ≤ 64) {o : Tx} (ho : aloneOk words o = true) :
    ∃ L' r', AOk (w.do_ (zeroTh o)) words L' r' ∧ wr (List.replicate (words + 1) 0) L' = (if o.kind = 3 then (wr (List.replicate (words + 1) 0) L).set o.at_.toNat o.v else wr (List.replicate (words + 1) 0) L) ∧ (L' = [] ↔ (L = [] ∧ o.kind ≠ 3)) := by
  obtain ⟨h1, h2, h3⟩ : 1 ≤ o.at_ ∧ o.at_ ≤ words ∧ (o.kind = 2 ∨ o.kind = 3) := by simpa [aloneOk] using ho
  obtain ⟨a1, a2, a3, a4, a5, a6, a7⟩ := h
  have hm : w.mem.length = words + 1 := by rw [a1]; simp
  have ht : w.there o.at_ = true := there_iff.2 ⟨h1, by omega⟩
  have e0 : w.do_ (zeroTh o) = w.doT 0 ⟨1, 0, r, L, 0, fun _ => 0, 0⟩ (zeroTh o) := by
    unfold TW.do_
    rw [if_neg (by simp [zeroTh])]
    simp [zeroTh, a4]
  rw [e0]
  unfold TW.doT
  rw [if_neg (by simp [zeroTh])]
  rcases h3 with h3 | h3
  · rw [if_pos ⟨h3, rfl, ht⟩, if_neg (by omega)]
    unfold TW.read
    simp only [zeroTh]
    split
    · exact ⟨L, r, ⟨a1, a2, a3, a4, a5, a6, by simp⟩, rfl, by simp [h3]⟩
    · have hs : stale w.locks ⟨1, 0, r, L, 0, fun _ => 0, 0⟩ (stripeN o.at_) = false := by simp [stale, a3, isLocked, since]
      simp only [hs, Bool.false_eq_true, if_false]
      exact ⟨L, _, ⟨a1, a2, a3, by simp only [a4]; rfl, a5, a6, by simp⟩, rfl, by simp [h3]⟩
  · rw [if_neg (by simp [zeroTh]; omega), if_pos ⟨h3, rfl, ht⟩, if_pos h3]
    simp only [zeroTh]
    have hlen : L.length ≤ words := by
      have := nodup_len words (L.map Prod.fst) a5 (fun a ha => by
        obtain ⟨c, hc, rfl⟩ := List.mem_map.1 ha
        exact a6 c hc)
      simpa using this
    by_cases hp : place L o.at_ < L.length
    · have e1 : w.write 0 ⟨1, 0, r, L, 0, fun _ => 0, 0⟩ o.at_ o.v = { w with ths := w.ths.set 0 ⟨1, 0, r, L.set (place L o.at_) (o.at_, o.v), 0, fun _ => 0, 0⟩, evs := w.evs ++ [⟨(0 : Nat), 3, o.at_, o.v⟩] } := if_pos hp
      rw [e1]
      obtain ⟨c, hc, hca⟩ := place_at hp
      refine ⟨L.set (place L o.at_) (o.at_, o.v), r, ⟨a1, a2, a3, by simp only [a4]; rfl, ?_, ?_, by simp⟩, wr_set L _ _ _ _ (by omega) (fun d hd => (a6 d hd).1) a5 ⟨c, hc, hca⟩, ?_⟩
      · rw [List.map_set]
        have e1 : (L.map Prod.fst).set (place L o.at_) o.at_ = L.map Prod.fst := by
          apply List.ext_getElem?
          intro i
          rw [List.getElem?_set]
          split
          · rename_i hi
            subst hi
            rw [if_pos (by simpa using hp), List.getElem?_map, hc]
            simp [hca]
          · rfl
        simp only [e1]
        exact a5
      · intro d hd
        rcases List.mem_or_eq_of_mem_set hd with h | rfl
        · exact a6 d h
        · exact ⟨h1, h2⟩
      · have : L ≠ [] := fun e => by rw [e] at hp; simp at hp
        simp [this]
    · have hno : ∀ c ∈ L, c.1 ≠ o.at_ := by
        intro c hc e
        exact hp (List.findIdx_lt_length_of_exists ⟨c, hc, by simp [e]⟩)
      have h64 : L.length < 64 := ?_
      · have e1 : w.write 0 ⟨1, 0, r, L, 0, fun _ => 0, 0⟩ o.at_ o.v = { w with ths := w.ths.set 0 ⟨1, 0, r, L ++ [(o.at_, o.v)], 0, fun _ => 0, 0⟩, evs := w.evs ++ [⟨(0 : Nat), 3, o.at_, o.v⟩] } := (if_neg hp).trans (if_pos h64)
        rw [e1]
        refine ⟨L ++ [(o.at_, o.v)], r, ⟨a1, a2, a3, by simp only [a4]; rfl, ?_, ?_, by simp⟩, ?_, by simp [h3]⟩
        · rw [List.map_append, List.nodup_append]
          refine ⟨a5, by simp, ?_⟩
          intro a ha b hb
          simp only [List.map_cons, List.map_nil, List.mem_singleton] at hb
          subst hb
          obtain ⟨c, hc, rfl⟩ := List.mem_map.1 ha
          exact hno c hc
        · intro d hd
          simp only [List.mem_append, List.mem_singleton] at hd
          rcases hd with h | rfl
          · exact a6 d h
          · exact ⟨h1, h2⟩
        · simp [wr]
      · have := nodup_len words (L.map Prod.fst ++ [o.at_]) (by
          rw [List.nodup_append]
          refine ⟨a5, by simp, ?_⟩
          intro a ha b hb
          simp only [List.mem_singleton] at hb
          subst hb
          obtain ⟨c, hc, rfl⟩ := List.mem_map.1 ha
          exact hno c hc) (fun a ha => by
          simp only [List.mem_append, List.mem_singleton] at ha
          rcases ha with h | rfl
          · obtain ⟨c, hc, rfl⟩ := List.mem_map.1 h
            exact a6 c hc
          · exact ⟨h1, h2⟩)
        simp at this
        omega

theorem alone_fold {words : Nat} (hw : words ≤ 64) (l : List Tx) : ∀ {w : TW} {L : List (Int × Int)} {r : Nat}, AOk w words L r →
    ∃ L' r', AOk ((aloneTx words l).foldl TW.do_ w) words L' r' ∧
      wr (List.replicate (words + 1) 0) L' = (l.filter (aloneOk words)).foldl (fun m o => if o.kind = 3 then m.set o.at_.toNat o.v else m) (wr (List.replicate (words + 1) 0) L) ∧
      (L' = [] ↔ (L = [] ∧ aloneWrites words l = false)) := by
  induction l with
  | nil => intro w L r h; exact ⟨L, r, h, rfl, by simp [aloneWrites]⟩
  | cons o l ih =>
    intro w L r h
    unfold aloneTx aloneWrites
    rw [List.filter_cons]
    cases ho : aloneOk words o with
    | false =>
      rw [if_neg (by simp)]
      exact ih h
    | true =>
      rw [if_pos rfl]
      obtain ⟨L1, r1, h1, h2, h3⟩ := alone_one h hw ho
      obtain ⟨L2, r2, g1, g2, g3⟩ := ih h1
      refine ⟨L2, r2, g1, ?_, ?_⟩
      · rw [g2, List.foldl_cons, h2]
      · rw [g3, h3]
        unfold aloneWrites
        by_cases hk : o.kind = 3 <;> simp [hk]

theorem alone_ops {words : Nat} (hw : words ≤ 64) (l : List Tx) :
    ∃ L r, AOk ((beginTx :: aloneTx words l).foldl TW.do_ (TW.init words 1)) words L r ∧ wr (List.replicate (words + 1) 0) L = aloneWant words l ∧ (L = [] ↔ aloneWrites words l = false) := by
  obtain ⟨L, r, h1, h2, h3⟩ := alone_fold hw l (alone_begin words)
  exact ⟨L, r, h1, h2, by simpa using h3⟩

/-! ### the steps -/
def steps (n : Nat) (w : TW) : TW := (List.replicate n stepTx).foldl TW.do_ w
theorem steps_add (a b : Nat) (w : TW) : steps (a + b) w = steps b (steps a w) := by
  unfold steps
  rw [← List.replicate_append_replicate, List.foldl_append]
theorem steps_succ (a : Nat) (w : TW) : steps (a + 1) w = steps a (w.do_ stepTx) := rfl

theorem do_step {w : TW} {t : Th} (h : w.ths = [t]) : w.do_ stepTx = w.step 0 t := by
  unfold TW.do_
  rw [if_neg (by simp [stepTx])]
  simp only [stepTx, h]
  simp [TW.doT]

theorem steps_idle {w : TW} (h : w.ths = [Th.none]) (n : Nat) : steps n w = w := by
  induction n with
  | zero => rfl
  | succ n ih =>
    rw [steps_succ, do_step h]
    have : w.step 0 Th.none = w := by simp [TW.step, Th.none]
    rw [this]
    exact ih

/-- how many locks are wanted -/
def wants (t : Th) : Nat := ((List.range 16).filter (fun s => (needs t.log).testBit s && !t.held.testBit s)).length

structure LOk (w : TW) (words : Nat) (t : Th) : Prop where
  mem : w.mem = List.replicate (words + 1) 0
  ck : w.clock = 0
  th : w.ths = [t]
  clock : t.clock = 0
  old : ∀ s, t.old s = 0
  free : ∀ s, t.held.testBit s = false → w.locks s = 0
  evs : w.evs ≠ []

theorem filter_less {α : Type} (p q : α → Bool) (l : List α) (h : ∀ a ∈ l, q a = true → p a = true) {x : α} (hx : x ∈ l) (h1 : p x = true) (h2 : q x = false) : (l.filter q).length < (l.filter p).length := by
  induction l with
  | nil => simp at hx
  | cons a l ih =>
    have hle : ∀ (l : List α), (∀ a ∈ l, q a = true → p a = true) → (l.filter q).length ≤ (l.filter p).length := by
      intro l
      induction l with
      | nil => intro _; simp
      | cons b l ih2 =>
        intro hb
        have := ih2 (fun a ha => hb a (by simp [ha]))
        have hb' := hb b (by simp)
        cases hq : q b <;> cases hp : p b <;> simp_all
        omega
    simp only [List.mem_cons] at hx
    rcases hx with rfl | hx
    · have := hle l (fun a ha => h a (by simp [ha]))
      simp [h1, h2]
      omega
    · have := ih (fun a ha => h a (by simp [ha])) hx
      have ha := h a (by simp)
      cases hq : q a <;> cases hp : p a <;> simp_all
      omega

theorem bit_or (m s k : Nat) : (m ||| 1 <<< s).testBit k = (m.testBit k || decide (k = s)) := by
  rw [Nat.testBit_or, Nat.one_shiftLeft, Nat.testBit_two_pow]
  by_cases h : s = k
  · subst h; simp
  · have : ¬ k = s := fun e => h e.symm
    simp [h, this]

/-- where it is decided -/
structure DOk (w : TW) (words : Nat) (L : List (Int × Int)) (m : List Int) (t : Th) : Prop where
  mem : w.mem = m
  th : w.ths = [t]
  ph : t.phase = 3
  log : t.log = L
  evs : w.evs.length ≥ 2 ∧ w.evs[w.evs.length - 1]? = some ⟨0, 7, 1, 1⟩

theorem step_lock {w : TW} {t : Th} (hp : t.phase = 1 ∧ t.log ≠ [] ∨ t.phase = 2) : w.step 0 t = w.lock 0 { t with phase := 2 } := by
  unfold TW.step
  rcases hp with ⟨h1, h2⟩ | h1
  · rw [if_pos h1, if_neg h2]
  · rw [if_neg (by omega), if_pos h1]
    cases t
    simp only at h1
    subst h1
    rfl

theorem decide_step {w : TW} {words : Nat} {t : Th} (h : LOk w words t) (hp : t.phase = 1 ∧ t.log ≠ [] ∨ t.phase = 2) (hw : wanted { t with phase := 2 } = none) (k : Nat) (hk : 1 ≤ k) :
    ∃ j t', j ≤ k ∧ DOk (steps j w) words t.log (List.replicate (words + 1) 0) t' := by
  refine ⟨1, { t with now := 1, phase := 3 }, hk, ?_⟩
  rw [show (1 : Nat) = 0 + 1 from rfl, steps_succ, do_step h.th, step_lock hp]
  have e1 : w.lock 0 { t with phase := 2 } = { w with clock := w.clock + 1, ths := w.ths.set 0 { t with now := w.clock + 1, phase := 3 }, evs := w.evs ++ [⟨(0 : Nat), 7, w.clock + 1, 1⟩] } := by
    unfold TW.lock
    rw [hw]
    simp only
    rw [if_neg ?_]
    rw [List.any_eq_true]
    rintro ⟨s, hs, hc⟩
    simp only [Bool.and_eq_true, stale] at hc
    cases hh : t.held.testBit s with
    | true => simp [hh, h.old, isLocked, since, h.clock] at hc
    | false => simp [hh, h.free s hh, isLocked, since, h.clock] at hc
  rw [e1]
  have hev : 0 < w.evs.length := List.length_pos_iff.2 h.evs
  exact ⟨h.mem, by simp [steps, h.th, h.ck], rfl, rfl, by simp [steps]; omega, by simp [steps, h.ck]⟩

theorem lock_steps {words : Nat} (k : Nat) : ∀ {w : TW} {t : Th}, LOk w words t → wants t ≤ k → (t.phase = 1 ∧ t.log ≠ [] ∨ t.phase = 2) →
    ∃ j t', j ≤ k + 1 ∧ DOk (steps j w) words t.log (List.replicate (words + 1) 0) t' := by
  induction k with
  | zero =>
    intro w t h hk hp
    have hw : wanted { t with phase := 2 } = none := by
      unfold wanted
      rw [List.find?_eq_none]
      intro s hs hc
      have : (List.range 16).filter (fun s => (needs t.log).testBit s && !t.held.testBit s) = [] := List.eq_nil_of_length_eq_zero (by unfold wants at hk; omega)
      rw [List.filter_eq_nil_iff] at this
      exact this s hs hc
    exact decide_step h hp hw 1 (by omega)
  | succ k ih =>
    intro w t h hk hp
    cases hw : wanted { t with phase := 2 } with
    | none => exact decide_step h hp hw (k + 1 + 1) (by omega)
    | some s =>
      have hs := wanted_lt hw
      have hb := List.find?_some hw
      simp only [Bool.and_eq_true, Bool.not_eq_true'] at hb
      have e1 : w.do_ stepTx = { w with locks := upd w.locks s (2 * (0 : Nat) + 1), ths := w.ths.set 0 { t with phase := 2, held := t.held ||| 1 <<< s, old := upd t.old s (w.locks s) } } := by
        rw [do_step h.th, step_lock hp]
        unfold TW.lock
        rw [hw]
        simp only
        rw [if_neg (by rw [h.free s hb.2]; simp [isLocked])]
      have h2 : LOk (w.do_ stepTx) words { t with phase := 2, held := t.held ||| 1 <<< s, old := upd t.old s (w.locks s) } := by
        rw [e1]
        refine ⟨h.mem, h.ck, by simp [h.th], h.clock, fun q => ?_, fun q hq => ?_, h.evs⟩
        · simp only [upd_at]
          split
          · exact h.free s hb.2
          · exact h.old q
        · simp only [bit_or, Bool.or_eq_false_iff, decide_eq_false_iff_not] at hq
          simp only [upd_at]
          rw [if_neg hq.2]
          exact h.free q hq.1
      have h3 : wants { t with phase := 2, held := t.held ||| 1 <<< s, old := upd t.old s (w.locks s) } ≤ k := by
        have : wants { t with phase := 2, held := t.held ||| 1 <<< s, old := upd t.old s (w.locks s) } < wants t := by
          unfold wants
          refine filter_less _ _ _ (fun q _ hq => ?_) (x := s) (by simpa using hs) (by simp [hb.1, hb.2]) (by simp [bit_or])
          simp only [bit_or, Bool.and_eq_true, Bool.not_eq_true', Bool.or_eq_false_iff] at hq
          simp [hq.1, hq.2.1]
        omega
      obtain ⟨j, t', hj, hd⟩ := ih h2 h3 (.inr rfl)
      exact ⟨j + 1, t', by omega, by rw [steps_succ]; exact hd⟩

theorem back_steps {words : Nat} (L : List (Int × Int)) : ∀ {w : TW} {m : List Int} {t : Th}, DOk w words L m t →
    (steps (L.length + 1) w).mem = wr m L ∧ (steps (L.length + 1) w).ths = [Th.none] ∧ (steps (L.length + 1) w).evs = w.evs := by
  induction L with
  | nil =>
    intro w m t h
    rw [steps_succ, do_step h.th]
    unfold TW.step
    rw [if_neg (by rw [h.ph]; decide), if_neg (by rw [h.ph]; decide), if_pos h.ph]
    unfold TW.back
    rw [h.log]
    exact ⟨h.mem, by simp [steps, h.th], rfl⟩
  | cons c L ih =>
    intro w m t h
    rw [show (c :: L).length + 1 = (L.length + 1) + 1 from rfl, steps_succ, do_step h.th]
    have e1 : w.step 0 t = { w with mem := w.mem.set c.1.toNat c.2, ths := w.ths.set 0 { t with log := L } } := by
      unfold TW.step
      rw [if_neg (by rw [h.ph]; decide), if_neg (by rw [h.ph]; decide), if_pos h.ph]
      unfold TW.back
      rw [h.log]
    rw [e1]
    have := ih (w := { w with mem := w.mem.set c.1.toNat c.2, ths := w.ths.set 0 { t with log := L } }) (m := m.set c.1.toNat c.2) (t := { t with log := L })
      ⟨by simp [h.mem], by simp [h.th], h.ph, rfl, h.evs⟩
    exact this

/-- all of it: the words in the end, the last event -/
theorem alone_all {words : Nat} (hw : words ≤ 64) (l : List Tx) :
    let w := runT words 1 (beginTx :: aloneTx words l ++ List.replicate 83 stepTx)
    w.mem = aloneWant words l ∧ 2 ≤ w.evs.length ∧ w.evs[w.evs.length - 1]? = some (if aloneWrites words l then ⟨0, 7, 1, 1⟩ else ⟨0, 7, 0, 0⟩) := by
  obtain ⟨L, r, h, h2, h3⟩ := alone_ops hw l
  have e0 : runT words 1 (beginTx :: aloneTx words l ++ List.replicate 83 stepTx) = steps 83 ((beginTx :: aloneTx words l).foldl TW.do_ (TW.init words 1)) := by
    unfold runT steps
    rw [List.foldl_append]
  simp only
  rw [e0]
  generalize hg : (beginTx :: aloneTx words l).foldl TW.do_ (TW.init words 1) = w0 at h
  have hev : 0 < w0.evs.length := List.length_pos_iff.2 h.evs
  cases hL : L with
  | nil =>
    subst hL
    have hno : aloneWrites words l = false := h3.1 rfl
    rw [show (83 : Nat) = 82 + 1 from rfl, steps_succ, do_step h.th]
    have e1 : w0.step 0 ⟨1, 0, r, [], 0, fun _ => 0, 0⟩ = { w0 with ths := w0.ths.set 0 Th.none, evs := w0.evs ++ [⟨(0 : Nat), 7, 0, 0⟩] } := by
      unfold TW.step
      rw [if_pos rfl, if_pos rfl]
    rw [e1, steps_idle (by simp [h.th]), hno]
    refine ⟨?_, by simp; omega, by simp⟩
    rw [← h2, h.mem]
    rfl
  | cons c L' =>
    have hyes : aloneWrites words l = true := by
      cases hq : aloneWrites words l with
      | true => rfl
      | false => have := h3.2 hq; rw [hL] at this; cases this
    have hlok : LOk w0 words ⟨1, 0, r, L, 0, fun _ => 0, 0⟩ := ⟨h.mem, h.ck, h.th, rfl, fun _ => rfl, fun s _ => by rw [h.locks], h.evs⟩
    have hwants : wants ⟨1, 0, r, L, 0, fun _ => 0, 0⟩ ≤ 16 := by
      unfold wants
      refine Nat.le_trans (List.length_filter_le _ _) (by simp)
    obtain ⟨j, t', hj, hd⟩ := lock_steps 16 hlok hwants (.inl ⟨rfl, by rw [hL]; simp⟩)
    obtain ⟨b1, b2, b3⟩ := back_steps L hd
    have hLw : L.length ≤ 64 := by
      have := nodup_len words (L.map Prod.fst) h.keys (fun a ha => by
        obtain ⟨d, hd', rfl⟩ := List.mem_map.1 ha
        exact h.rng d hd')
      simp at this
      omega
    have e1 : steps 83 w0 = steps (L.length + 1) (steps j w0) := by
      rw [show 83 = j + ((L.length + 1) + (83 - j - (L.length + 1))) from by omega, steps_add, steps_add, steps_idle b2]
    rw [e1, b1, b3, hyes]
    exact ⟨h2, hd.evs.1, by simpa using hd.evs.2⟩

end Go.Proofs.Ytimepfmbienbkaa

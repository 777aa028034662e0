/- Put together by merge.py out of XTlSpec.lean.tpl, XTlLaw.lean.tpl, XTlInv.lean.tpl. -/
import Derived.Test.YtlphjkgjcfhihaaHistSpec
namespace Go.Proofs.Ytlphjkgjcfhihaa
open Go.RowKit
set_option linter.unusedVariables false
set_option linter.unusedSimpArgs false

section
/-- a thread: phase, what the clock said, stripes read, what it will write, locks it has, what they said, the clock's new number -/
structure Th where
  phase : Int
  clock : Int
  reads : Nat
  log : List (Int × Int)
  held : Nat
  old : Nat → Int
  now : Int

def Th.none : Th := ⟨0, 0, 0, [], 0, fun _ => 0, 0⟩

structure TW where
  mem : List Int
  clock : Int
  locks : Nat → Int
  ths : List Th
  evs : List Ev

structure Tx where
  th : Int
  kind : Int
  at_ : Int
  v : Int

def isLocked (v : Int) : Bool := v % 2 == 1
def since (v : Int) : Int := if isLocked v then 0 else v / 2
def stripeN (a : Int) : Nat := (a % 16).toNat

/-- the locks that a thread has say something else -/
def freed (held : Nat) (say locks : Nat → Int) : Nat → Int := fun s => if s < 16 ∧ held.testBit s = true then say s else locks s

def TW.abort (w : TW) (n : Nat) (t : Th) : TW :=
  { w with locks := freed t.held t.old w.locks, evs := w.evs ++ [⟨n, 8, 0, 0⟩], ths := w.ths.set n Th.none }

def stale (locks : Nat → Int) (t : Th) (s : Nat) : Bool :=
  let v := if t.held.testBit s then t.old s else locks s
  isLocked v || decide (t.clock < since v)

/-- the place of a word in the log; its length: it is not there -/
def place (l : List (Int × Int)) (a : Int) : Nat := l.findIdx (fun c => c.1 == a)

def TW.begin (w : TW) (n : Nat) : TW :=
  { w with ths := w.ths.set n { Th.none with phase := 1, clock := w.clock }, evs := w.evs ++ [⟨n, 1, w.clock, 0⟩] }

def TW.read (w : TW) (n : Nat) (t : Th) (a : Int) : TW :=
  match t.log[place t.log a]? with
  | some c => { w with evs := w.evs ++ [⟨n, 2, a, c.2⟩] }
  | none => if stale w.locks t (stripeN a) then w.abort n t
    else { w with ths := w.ths.set n { t with reads := t.reads ||| 1 <<< stripeN a }, evs := w.evs ++ [⟨n, 2, a, w.mem.getD a.toNat 0⟩] }

def TW.write (w : TW) (n : Nat) (t : Th) (a v : Int) : TW :=
  if place t.log a < t.log.length then { w with ths := w.ths.set n { t with log := t.log.set (place t.log a) (a, v) }, evs := w.evs ++ [⟨n, 3, a, v⟩] }
  else if t.log.length < 64 then { w with ths := w.ths.set n { t with log := t.log ++ [(a, v)] }, evs := w.evs ++ [⟨n, 3, a, v⟩] }
  else w

def needs (l : List (Int × Int)) : Nat := l.foldl (fun m c => m ||| 1 <<< stripeN c.1) 0

/-- the next stripe whose lock is wanted -/
def wanted (t : Th) : Option Nat := (List.range 16).find? (fun s => (needs t.log).testBit s && !t.held.testBit s)

def TW.lock (w : TW) (n : Nat) (t : Th) : TW :=
  match wanted t with
  | some s => if isLocked (w.locks s) then w.abort n t
    else { w with locks := upd w.locks s (2 * n + 1), ths := w.ths.set n { t with held := t.held ||| 1 <<< s, old := upd t.old s (w.locks s) } }
  | none =>
    if (List.range 16).any (fun s => t.reads.testBit s && stale w.locks t s) then { w with clock := w.clock + 1 }.abort n t
    else { w with clock := w.clock + 1, ths := w.ths.set n { t with now := w.clock + 1, phase := 3 }, evs := w.evs ++ [⟨n, 7, w.clock + 1, 1⟩] }

def TW.back (w : TW) (n : Nat) (t : Th) : TW :=
  match t.log with
  | c :: l => { w with mem := w.mem.set c.1.toNat c.2, ths := w.ths.set n { t with log := l } }
  | [] => { w with locks := freed t.held (fun _ => 2 * t.now) w.locks, ths := w.ths.set n Th.none }

def TW.step (w : TW) (n : Nat) (t : Th) : TW :=
  if t.phase = 1 then
    if t.log = [] then { w with ths := w.ths.set n Th.none, evs := w.evs ++ [⟨n, 7, t.clock, 0⟩] }
    else w.lock n { t with phase := 2 }
  else if t.phase = 2 then w.lock n t
  else if t.phase = 3 then w.back n t
  else w

def TW.there (w : TW) (a : Int) : Bool := decide (1 ≤ a ∧ a < w.mem.length)

def TW.doT (w : TW) (n : Nat) (t : Th) (o : Tx) : TW :=
  if o.kind = 1 ∧ t.phase = 0 then w.begin n
  else if o.kind = 2 ∧ t.phase = 1 ∧ w.there o.at_ = true then w.read n t o.at_
  else if o.kind = 3 ∧ t.phase = 1 ∧ w.there o.at_ = true then w.write n t o.at_ o.v
  else if o.kind = 4 then w.step n t
  else if o.kind = 5 ∧ (t.phase = 1 ∨ t.phase = 2) then w.abort n t
  else w

def TW.do_ (w : TW) (o : Tx) : TW :=
  if o.th < 0 then w else
  match w.ths[o.th.toNat]? with
  | none => w
  | some t => w.doT o.th.toNat t o

def TW.init (words threads : Nat) : TW := ⟨List.replicate (words + 1) 0, 0, fun _ => 0, List.replicate threads Th.none, []⟩
def runT (words threads : Nat) (l : List Tx) : TW := l.foldl TW.do_ (TW.init words threads)
end

section
structure ThOk (t : Th) (m i : Nat) : Prop where
  ph : t.phase = 0 ∨ t.phase = 1 ∨ t.phase = 2 ∨ t.phase = 3
  log : ∀ c ∈ t.log, 1 ≤ c.1 ∧ c.1 < m
  len : t.log.length ≤ 64
  rd : t.reads < 65536
  hd : t.held < 65536
  now0 : 0 ≤ t.now
  now1 : t.now ≤ i

structure TOk (w : TW) (m n i : Nat) : Prop where
  mem : w.mem.length = m
  ths : w.ths.length = n
  zero : w.mem[0]? = some 0
  ck0 : 0 ≤ w.clock
  ck1 : w.clock ≤ i
  evs : w.evs.length ≤ i
  th : ∀ (k : Nat) t, w.ths[k]? = some t → ThOk t m i

theorem ThOk.none (m i : Nat) : ThOk Th.none m i := ⟨.inl rfl, by simp [Th.none], by simp [Th.none], by simp [Th.none], by simp [Th.none], by simp [Th.none], by simp [Th.none]⟩
theorem ThOk.mono {t : Th} {m i j : Nat} (h : ThOk t m i) (hij : i ≤ j) : ThOk t m j := ⟨h.ph, h.log, h.len, h.rd, h.hd, h.now0, by have := h.now1; omega⟩

theorem TOk.init (words threads : Nat) : TOk (TW.init words threads) (words + 1) threads 0 :=
  ⟨by simp [TW.init], by simp [TW.init], by simp [TW.init], by simp [TW.init], by simp [TW.init], by simp [TW.init], fun k t h => by
    simp only [TW.init, List.getElem?_replicate] at h
    split at h
    · cases h; exact ThOk.none _ _
    · cases h⟩

theorem TOk.lt {w : TW} {m n i : Nat} (h : TOk w m n i) : 0 < m := by
  have := h.zero
  have h2 := (List.getElem?_eq_some_iff.1 this).1
  have := h.mem
  omega

theorem set_th {w : TW} {m n i : Nat} (h : TOk w m n i) (k : Nat) {t : Th} (ht : ThOk t m (i + 1)) : ∀ (j : Nat) u, (w.ths.set k t)[j]? = some u → ThOk u m (i + 1) := by
  intro j u hu
  rw [List.getElem?_set] at hu
  split at hu
  · split at hu
    · cases hu; exact ht
    · cases hu
  · exact (h.th j u hu).mono (by omega)

theorem stripeN_lt (a : Int) : stripeN a < 16 := by unfold stripeN; omega

theorem bit_lt {m s : Nat} (hm : m < 65536) (hs : s < 16) : m ||| 1 <<< s < 65536 := by
  have h2 : 1 <<< s < 2 ^ 16 := by
    rw [Nat.one_shiftLeft]
    exact Nat.pow_lt_pow_right (by decide) hs
  exact Nat.or_lt_two_pow (n := 16) hm h2

theorem place_at {l : List (Int × Int)} {a : Int} (h : place l a < l.length) : ∃ c, l[place l a]? = some c ∧ c.1 = a := by
  refine ⟨l[place l a], List.getElem?_eq_getElem h, ?_⟩
  have := List.findIdx_getElem (p := fun c : Int × Int => c.1 == a) (xs := l) (w := h)
  simp only [beq_iff_eq] at this
  exact this

theorem there_iff {w : TW} {a : Int} : w.there a = true ↔ 1 ≤ a ∧ a < w.mem.length := by simp [TW.there]

theorem TOk.abort {w : TW} {m n i : Nat} (h : TOk w m n i) (k : Nat) (t : Th) : TOk (w.abort k t) m n (i + 1) :=
  ⟨h.mem, by simp [TW.abort, h.ths], h.zero, h.ck0, by have := h.ck1; simp only [TW.abort]; omega, by have := h.evs; simp [TW.abort]; omega, set_th h k (ThOk.none _ _)⟩

theorem wanted_lt {t : Th} {s : Nat} (h : wanted t = some s) : s < 16 := by
  have := List.mem_of_find?_eq_some h
  simpa using this

theorem TOk.lock {w : TW} {m n i : Nat} (h : TOk w m n i) (k : Nat) {t : Th} (ht : ThOk t m i) : TOk (w.lock k t) m n (i + 1) := by
  unfold TW.lock
  cases hw : wanted t with
  | some s =>
    simp only
    split
    · exact h.abort k t
    · refine ⟨h.mem, by simp [h.ths], h.zero, h.ck0, by have := h.ck1; simp only; omega, by have := h.evs; simp only; omega, set_th h k ?_⟩
      exact ⟨ht.ph, ht.log, ht.len, ht.rd, bit_lt ht.hd (wanted_lt hw), ht.now0, by have := ht.now1; simp only; omega⟩
  | none =>
    simp only
    split
    · have := h.abort k t
      exact ⟨this.mem, this.ths, this.zero, by have := h.ck0; simp [TW.abort]; omega, by have := h.ck1; simp [TW.abort]; omega, this.evs, this.th⟩
    · refine ⟨h.mem, by simp [h.ths], h.zero, by have := h.ck0; simp only; omega, by have := h.ck1; simp only; omega, by have := h.evs; simp; omega, set_th h k ?_⟩
      exact ⟨.inr (.inr (.inr rfl)), ht.log, ht.len, ht.rd, ht.hd, by have := h.ck0; simp only; omega, by have := h.ck1; simp only; omega⟩

theorem TOk.keep {w : TW} {m n i : Nat} (h : TOk w m n i) : TOk w m n (i + 1) :=
  ⟨h.mem, h.ths, h.zero, h.ck0, by have := h.ck1; omega, by have := h.evs; omega, fun k t hk => (h.th k t hk).mono (by omega)⟩

theorem TOk.step {w : TW} {m n i : Nat} (h : TOk w m n i) (k : Nat) {t : Th} (ht : ThOk t m i) : TOk (w.step k t) m n (i + 1) := by
  unfold TW.step
  split
  · split
    · exact ⟨h.mem, by simp [h.ths], h.zero, h.ck0, by have := h.ck1; simp only; omega, by have := h.evs; simp; omega, set_th h k (ThOk.none _ _)⟩
    · exact h.lock k ⟨.inr (.inr (.inl rfl)), ht.log, ht.len, ht.rd, ht.hd, ht.now0, ht.now1⟩
  · split
    · exact h.lock k ht
    · split
      · unfold TW.back
        split
        · rename_i c l hl
          have hc := ht.log c (by rw [hl]; simp)
          refine ⟨by simp [h.mem], by simp [h.ths], ?_, h.ck0, by have := h.ck1; simp only; omega, by have := h.evs; simp only; omega, set_th h k ?_⟩
          · simp only
            rw [List.getElem?_set_ne (by omega)]
            exact h.zero
          · exact ⟨ht.ph, fun d hd => ht.log d (by rw [hl]; exact List.mem_cons_of_mem _ hd), by have := ht.len; rw [hl] at this; simp at this ⊢; omega, ht.rd, ht.hd, ht.now0, by have := ht.now1; simp only; omega⟩
        · exact ⟨h.mem, by simp [h.ths], h.zero, h.ck0, by have := h.ck1; simp only; omega, by have := h.evs; simp only; omega, set_th h k (ThOk.none _ _)⟩
      · exact h.keep

theorem TOk.doT {w : TW} {m n i : Nat} (h : TOk w m n i) (k : Nat) {t : Th} (ht : ThOk t m i) (o : Tx) : TOk (w.doT k t o) m n (i + 1) := by
  unfold TW.doT
  split
  · exact ⟨h.mem, by simp [TW.begin, h.ths], h.zero, h.ck0, by have := h.ck1; simp only [TW.begin]; omega, by have := h.evs; simp [TW.begin]; omega,
      set_th h k ⟨.inr (.inl rfl), by simp [Th.none], by simp [Th.none], by simp [Th.none], by simp [Th.none], by simp [Th.none], by simp [Th.none]; omega⟩⟩
  split
  · unfold TW.read
    split
    · exact ⟨h.mem, h.ths, h.zero, h.ck0, by have := h.ck1; simp only; omega, by have := h.evs; simp; omega, fun j u hj => (h.th j u hj).mono (by omega)⟩
    · split
      · exact h.abort k t
      · refine ⟨h.mem, by simp [h.ths], h.zero, h.ck0, by have := h.ck1; simp only; omega, by have := h.evs; simp; omega, set_th h k ?_⟩
        exact ⟨ht.ph, ht.log, ht.len, bit_lt ht.rd (stripeN_lt _), ht.hd, ht.now0, by have := ht.now1; simp only; omega⟩
  split
  · rename_i hc
    have ha := there_iff.1 hc.2.2
    rw [h.mem] at ha
    unfold TW.write
    split
    · rename_i hp
      refine ⟨h.mem, by simp [h.ths], h.zero, h.ck0, by have := h.ck1; simp only; omega, by have := h.evs; simp; omega, set_th h k ?_⟩
      refine ⟨ht.ph, fun c hc' => ?_, by simpa using ht.len, ht.rd, ht.hd, ht.now0, by have := ht.now1; simp only; omega⟩
      rcases List.mem_or_eq_of_mem_set hc' with h1 | rfl
      · exact ht.log c h1
      · exact ha
    · split
      · refine ⟨h.mem, by simp [h.ths], h.zero, h.ck0, by have := h.ck1; simp only; omega, by have := h.evs; simp; omega, set_th h k ?_⟩
        refine ⟨ht.ph, fun c hc' => ?_, by simp; omega, ht.rd, ht.hd, ht.now0, by have := ht.now1; simp only; omega⟩
        simp only [List.mem_append, List.mem_singleton] at hc'
        rcases hc' with h1 | rfl
        · exact ht.log c h1
        · exact ha
      · exact h.keep
  split
  · exact h.step k ht
  split
  · exact h.abort k t
  · exact h.keep

theorem TOk.do_ {w : TW} {m n i : Nat} (h : TOk w m n i) (o : Tx) : TOk (w.do_ o) m n (i + 1) := by
  unfold TW.do_
  split
  · exact h.keep
  · split
    · exact h.keep
    · rename_i t ht
      exact h.doT _ (h.th _ _ ht) o

theorem TOk.fold {m n : Nat} (l : List Tx) : ∀ {w : TW} {i : Nat}, TOk w m n i → TOk (l.foldl TW.do_ w) m n (i + l.length) := by
  induction l with
  | nil => intro w i h; exact h
  | cons o l ih =>
    intro w i h
    have := ih (h.do_ o)
    rwa [show i + 1 + l.length = i + (o :: l).length from by simp; omega] at this

theorem TOk.run (words threads : Nat) (l : List Tx) : TOk (runT words threads l) (words + 1) threads l.length := by
  have := (TOk.init words threads).fold l
  rwa [Nat.zero_add] at this

/-! ### the events go on -/
theorem lock_evs (w : TW) (k : Nat) (t : Th) : ∃ r, (w.lock k t).evs = w.evs ++ r := by
  unfold TW.lock
  cases wanted t with
  | some s =>
    simp only
    split
    · exact ⟨_, rfl⟩
    · exact ⟨[], by simp⟩
  | none =>
    simp only
    split
    · exact ⟨_, rfl⟩
    · exact ⟨_, rfl⟩

theorem do_evs (w : TW) (o : Tx) : ∃ r, (w.do_ o).evs = w.evs ++ r := by
  unfold TW.do_
  split
  · exact ⟨[], by simp⟩
  split
  · exact ⟨[], by simp⟩
  unfold TW.doT
  split
  · exact ⟨_, rfl⟩
  split
  · unfold TW.read
    split
    · exact ⟨_, rfl⟩
    · split
      · exact ⟨_, rfl⟩
      · exact ⟨_, rfl⟩
  split
  · unfold TW.write
    split
    · exact ⟨_, rfl⟩
    · split
      · exact ⟨_, rfl⟩
      · exact ⟨[], by simp⟩
  split
  · unfold TW.step
    split
    · split
      · exact ⟨_, rfl⟩
      · exact lock_evs _ _ _
    · split
      · exact lock_evs _ _ _
      · split
        · unfold TW.back
          split
          · exact ⟨[], by simp⟩
          · exact ⟨[], by simp⟩
        · exact ⟨[], by simp⟩
  split
  · exact ⟨_, rfl⟩
  · exact ⟨[], by simp⟩

theorem fold_evs (l : List Tx) : ∀ (w : TW), ∃ r, (l.foldl TW.do_ w).evs = w.evs ++ r := by
  induction l with
  | nil => intro w; exact ⟨[], by simp⟩
  | cons o l ih =>
    intro w
    obtain ⟨r, hr⟩ := ih (w.do_ o)
    obtain ⟨s, hs⟩ := do_evs w o
    exact ⟨s ++ r, by rw [List.foldl_cons, hr, hs, List.append_assoc]⟩

theorem run_more (words threads : Nat) (l more : List Tx) : ∃ r, (runT words threads (l ++ more)).evs = (runT words threads l).evs ++ r := by
  unfold runT
  rw [List.foldl_append]
  exact fold_evs _ _

/-! ### what is nothing -/
def someTx (threads : Int) (o : Tx) : Bool := decide (0 ≤ o.th ∧ o.th < threads ∧ 1 ≤ o.kind ∧ o.kind ≤ 5)

theorem do_nothing {w : TW} {m n i : Nat} (h : TOk w m n i) {o : Tx} (ho : someTx n o = false) : w.do_ o = w := by
  have ho' : ¬ (0 ≤ o.th ∧ o.th < n ∧ 1 ≤ o.kind ∧ o.kind ≤ 5) := by simpa [someTx] using ho
  unfold TW.do_
  split
  · rfl
  split
  · rfl
  rename_i ht t hk
  have hlt := (List.getElem?_eq_some_iff.1 hk).1
  rw [h.ths] at hlt
  have hn : ¬ (1 ≤ o.kind ∧ o.kind ≤ 5) := fun hc => ho' ⟨by omega, by omega, hc.1, hc.2⟩
  unfold TW.doT
  rw [if_neg (by omega), if_neg (by omega), if_neg (by omega), if_neg (by omega), if_neg (by omega)]

theorem fold_some {m n : Nat} (l : List Tx) : ∀ {w : TW} {i : Nat}, TOk w m n i → l.foldl TW.do_ w = (l.filter (someTx n)).foldl TW.do_ w := by
  induction l with
  | nil => intro w i h; rfl
  | cons o l ih =>
    intro w i h
    rw [List.foldl_cons, List.filter_cons]
    cases ho : someTx n o with
    | true => rw [if_pos rfl, List.foldl_cons]; exact ih (h.do_ o)
    | false => rw [if_neg (by simp), do_nothing h ho]; exact ih h

theorem run_some (words threads : Nat) (l more : List Tx) : runT words threads (l ++ more) = runT words threads (l ++ more.filter (someTx threads)) := by
  unfold runT
  rw [List.foldl_append, List.foldl_append]
  exact fold_some more ((TOk.init words threads).fold l)
end

section
structure LkInv (w : TW) : Prop where
  held : ∀ (n : Nat) t (s : Nat), w.ths[n]? = some t → s < 16 → (t.held.testBit s = true ↔ w.locks s = 2 * n + 1)
  old : ∀ (n : Nat) t (s : Nat), w.ths[n]? = some t → s < 16 → t.held.testBit s = true → t.old s % 2 = 0
  idle : ∀ (n : Nat) t, w.ths[n]? = some t → t.phase = 0 ∨ t.phase = 1 → t.held = 0

theorem LkInv.init (words threads : Nat) : LkInv (TW.init words threads) := by
  have key : ∀ (n : Nat) t, (TW.init words threads).ths[n]? = some t → t = Th.none := fun n t h => by
    simp only [TW.init, List.getElem?_replicate] at h
    split at h
    · cases h; rfl
    · cases h
  refine ⟨fun n t s h hs => ?_, fun n t s h hs hb => ?_, fun n t h _ => ?_⟩
  · rw [key n t h]; simp [Th.none, TW.init]; omega
  · rw [key n t h] at hb; simp [Th.none] at hb
  · rw [key n t h]; rfl

theorem LkInv.turn {w w' : TW} (h : LkInv w) {n : Nat} {t' : Th} (hths : w'.ths = w.ths.set n t') (hn : ∀ s, s < 16 → (t'.held.testBit s = true ↔ w'.locks s = 2 * n + 1))
    (hl : ∀ s, s < 16 → w'.locks s ≠ w.locks s → (w.locks s = 2 * n + 1 ∨ w.locks s % 2 = 0) ∧ (w'.locks s = 2 * n + 1 ∨ w'.locks s % 2 = 0)) (ho : ∀ s, s < 16 → t'.held.testBit s = true → t'.old s % 2 = 0) (hi : t'.phase = 0 ∨ t'.phase = 1 → t'.held = 0) : LkInv w' := by
  have get : ∀ (k : Nat) u, w'.ths[k]? = some u → k = n ∧ u = t' ∨ k ≠ n ∧ w.ths[k]? = some u := fun k u hu => by
    rw [hths, List.getElem?_set] at hu
    split at hu
    · rename_i e
      split at hu
      · cases hu; exact .inl ⟨e.symm, rfl⟩
      · cases hu
    · rename_i e
      exact .inr ⟨fun q => e q.symm, hu⟩
  refine ⟨fun k u s hu hs => ?_, fun k u s hu hs hb => ?_, fun k u hu hp => ?_⟩
  · rcases get k u hu with ⟨rfl, rfl⟩ | ⟨hk, hu⟩
    · exact hn s hs
    · rw [h.held k u s hu hs]
      by_cases e : w'.locks s = w.locks s
      · rw [e]
      · obtain ⟨h1, h2⟩ := hl s hs e
        constructor
        · intro q; omega
        · intro q; omega
  · rcases get k u hu with ⟨rfl, rfl⟩ | ⟨hk, hu⟩
    · exact ho s hs hb
    · exact h.old k u s hu hs hb
  · rcases get k u hu with ⟨rfl, rfl⟩ | ⟨hk, hu⟩
    · exact hi hp
    · exact h.idle k u hu hp

/-- the thread keeps its locks -/
theorem LkInv.same {w w' : TW} (h : LkInv w) {n : Nat} {t t' : Th} (ht : w.ths[n]? = some t) (hths : w'.ths = w.ths.set n t') (hl : w'.locks = w.locks) (hh : t'.held = t.held) (ho : t'.old = t.old) (hi : t'.phase = 0 ∨ t'.phase = 1 → t'.held = 0) : LkInv w' :=
  h.turn hths (fun s hs => by rw [hh, hl]; exact h.held n t s ht hs) (fun s hs e => absurd (by rw [hl]) e) (fun s hs hb => by rw [ho]; exact h.old n t s ht hs (by rw [← hh]; exact hb)) hi
theorem LkInv.evs {w w' : TW} (h : LkInv w) (hths : w'.ths = w.ths) (hl : w'.locks = w.locks) : LkInv w' :=
  ⟨fun n t s ht hs => by rw [hl]; exact h.held n t s (by rw [← hths]; exact ht) hs, fun n t s ht hs hb => h.old n t s (by rw [← hths]; exact ht) hs hb, fun n t ht hp => h.idle n t (by rw [← hths]; exact ht) hp⟩

theorem LkInv.abort {w w' : TW} (h : LkInv w) {n m : Nat} {t : Th} (ht : w.ths[n]? = some t) (hm : m = t.held) {say : Nat → Int} (hs : ∀ s, s < 16 → m.testBit s = true → say s % 2 = 0) (hths : w'.ths = w.ths.set n Th.none) (hl : w'.locks = freed m say w.locks) : LkInv w' := by
  subst hm
  refine h.turn hths (fun s hs' => ?_) (fun s hs' e => ?_) (fun s _ hb => by simp [Th.none] at hb) (fun _ => rfl)
  · have h1 := h.held n t s ht hs'
    rw [hl]
    unfold freed
    constructor
    · intro q; simp [Th.none] at q
    · intro q
      split at q
      · rename_i hc; have := hs s hs' hc.2; omega
      · rename_i hc; exact absurd ⟨hs', h1.2 q⟩ hc
  · have h1 := h.held n t s ht hs'
    rw [hl] at e ⊢
    unfold freed at e ⊢
    split at e
    · rename_i hc
      rw [if_pos hc]
      exact ⟨.inl (h1.1 hc.2), .inr (hs s hs' hc.2)⟩
    · exact absurd rfl e

theorem testBit_set (m s k : Nat) : (m ||| 1 <<< s).testBit k = (m.testBit k || decide (k = s)) := by
  rw [Nat.testBit_or, Nat.one_shiftLeft, Nat.testBit_two_pow]
  simp [eq_comm]

theorem LkInv.lock {w : TW} (h : LkInv w) {n : Nat} {t t0 : Th} (ht0 : w.ths[n]? = some t0) (hh : t.held = t0.held) (ho : t.old = t0.old) (hp : t.phase = 2) : LkInv (w.lock n t) := by
  have hold : ∀ k, k < 16 → t.held.testBit k = true → t.old k % 2 = 0 := fun k hk hb => by rw [ho]; exact h.old n t0 k ht0 hk (by rw [← hh]; exact hb)
  unfold TW.lock
  cases hw : wanted t with
  | some s =>
    simp only
    split
    · exact h.abort ht0 hh hold rfl rfl
    · rename_i hlk
      have hev : w.locks s % 2 = 0 := by unfold isLocked at hlk; simp at hlk; omega
      refine h.turn rfl (fun k hk => ?_) (fun k hk e => ?_) (fun k hk hb => ?_) (fun q => by simp only [hp] at q; omega)
      · simp only [testBit_set, upd_at]
        by_cases e : k = s
        · simp [e]
        · simp only [e, decide_false, Bool.or_false, if_false]
          rw [hh]; exact h.held n t0 k ht0 hk
      · simp only [upd_at] at e ⊢
        by_cases e2 : k = s
        · subst e2
          rw [if_pos rfl]
          exact ⟨.inr hev, .inl rfl⟩
        · rw [if_neg e2] at e; exact absurd rfl e
      · simp only [testBit_set, upd_at] at hb ⊢
        by_cases e2 : k = s
        · subst e2; rw [if_pos rfl]; exact hev
        · rw [if_neg e2]
          simp only [e2, decide_false, Bool.or_false] at hb
          exact hold k hk hb
  | none =>
    simp only
    split
    · exact h.abort ht0 hh hold rfl rfl
    · exact h.same ht0 rfl rfl hh ho (fun q => by simp at q)

theorem LkInv.step {w : TW} {m k i : Nat} (h : LkInv w) (ht : TOk w m k i) {n : Nat} {t : Th} (ht0 : w.ths[n]? = some t) : LkInv (w.step n t) := by
  have hold : ∀ k, k < 16 → t.held.testBit k = true → t.old k % 2 = 0 := fun k hk hb => h.old n t k ht0 hk hb
  unfold TW.step
  split
  · rename_i hp
    split
    · have h0 := h.idle n t ht0 (.inr hp)
      refine h.turn rfl (fun s hs => ?_) (fun s _ e => absurd rfl e) (fun s _ hb => by simp [Th.none] at hb) (fun _ => rfl)
      have h1 := h.held n t s ht0 hs
      rw [h0] at h1
      simpa [Th.none] using h1
    · exact h.lock ht0 rfl rfl rfl
  · split
    · rename_i hp; exact h.lock ht0 rfl rfl hp
    · split
      · rename_i hp3
        unfold TW.back
        split
        · rename_i c l hlog
          exact h.same ht0 rfl rfl rfl rfl (fun q => by simp only [hp3] at q; omega)
        · exact h.abort ht0 rfl (fun s _ _ => by omega) rfl rfl
      · exact h

theorem LkInv.doT {w : TW} {m k i : Nat} (h : LkInv w) (ht : TOk w m k i) {n : Nat} {t : Th} (ht0 : w.ths[n]? = some t) (o : Tx) : LkInv (w.doT n t o) := by
  have hold : ∀ k, k < 16 → t.held.testBit k = true → t.old k % 2 = 0 := fun k hk hb => h.old n t k ht0 hk hb
  unfold TW.doT
  split
  · rename_i hc
    have h0 := h.idle n t ht0 (.inl hc.2)
    unfold TW.begin
    refine h.turn rfl (fun s hs => ?_) (fun s _ e => absurd rfl e) (fun s _ hb => by simp [Th.none] at hb) (fun _ => rfl)
    have h1 := h.held n t s ht0 hs
    rw [h0] at h1
    simpa [Th.none] using h1
  · split
    · rename_i hc
      have h0 := h.idle n t ht0 (.inr hc.2.1)
      unfold TW.read
      split
      · exact h.evs rfl rfl
      · split
        · exact h.abort ht0 rfl hold rfl rfl
        · exact h.same ht0 rfl rfl rfl rfl (fun _ => h0)
    · split
      · rename_i hc
        have h0 := h.idle n t ht0 (.inr hc.2.1)
        unfold TW.write
        split
        · exact h.same ht0 rfl rfl rfl rfl (fun _ => h0)
        · split
          · exact h.same ht0 rfl rfl rfl rfl (fun _ => h0)
          · exact h
      · split
        · exact h.step ht ht0
        · split
          · exact h.abort ht0 rfl hold rfl rfl
          · exact h
theorem LkInv.do_ {w : TW} {m k i : Nat} (h : LkInv w) (ht : TOk w m k i) (o : Tx) : LkInv (w.do_ o) := by
  unfold TW.do_
  split
  · exact h
  · split
    · exact h
    · rename_i t ht0
      exact h.doT ht ht0 o
theorem LkInv.fold {m n : Nat} (l : List Tx) : ∀ {w : TW} {i : Nat}, LkInv w → TOk w m n i → LkInv (l.foldl TW.do_ w) := by
  induction l with
  | nil => intro w i h _; exact h
  | cons o l ih => intro w i h ht; exact ih (h.do_ ht o) (ht.do_ o)
/-- the numbers in the locks are small -/
structure LkB (w : TW) : Prop where
  lo : ∀ s, s < 16 → 0 ≤ w.locks s ∧ w.locks s ≤ 1000000
  ol : ∀ (n : Nat) t (s : Nat), w.ths[n]? = some t → s < 16 → t.held.testBit s = true → 0 ≤ t.old s ∧ t.old s ≤ 1000000

theorem LkB.init (words threads : Nat) : LkB (TW.init words threads) := by
  refine ⟨fun s _ => by simp [TW.init], fun n t s h hs hb => ?_⟩
  simp only [TW.init, List.getElem?_replicate] at h
  split at h
  · cases h; simp [Th.none] at hb
  · cases h
theorem LkB.turn {w w' : TW} (h : LkB w) {n : Nat} {t' : Th} (hths : w'.ths = w.ths.set n t') (hl : ∀ s, s < 16 → 0 ≤ w'.locks s ∧ w'.locks s ≤ 1000000) (ho : ∀ s, s < 16 → t'.held.testBit s = true → 0 ≤ t'.old s ∧ t'.old s ≤ 1000000) : LkB w' := by
  refine ⟨hl, fun k u s hu hs hb => ?_⟩
  rw [hths, List.getElem?_set] at hu
  split at hu
  · split at hu
    · cases hu; exact ho s hs hb
    · cases hu
  · exact h.ol k u s hu hs hb
theorem LkB.evs {w w' : TW} (h : LkB w) (hths : w'.ths = w.ths) (hl : w'.locks = w.locks) : LkB w' := ⟨fun s hs => by rw [hl]; exact h.lo s hs, fun n t s ht => h.ol n t s (by rw [← hths]; exact ht)⟩
theorem freed_b {m : Nat} {say locks : Nat → Int} (hs : ∀ s, s < 16 → m.testBit s = true → 0 ≤ say s ∧ say s ≤ 1000000) (hl : ∀ s, s < 16 → 0 ≤ locks s ∧ locks s ≤ 1000000) : ∀ s, s < 16 → 0 ≤ freed m say locks s ∧ freed m say locks s ≤ 1000000 := fun s h => by
  unfold freed
  split
  · rename_i hc; exact hs s h hc.2
  · exact hl s h
theorem LkB.lock {w : TW} (h : LkB w) {n : Nat} {t t0 : Th} (ht0 : w.ths[n]? = some t0) (hh : t.held = t0.held) (ho : t.old = t0.old) (hn : n ≤ 400000) : LkB (w.lock n t) := by
  have hold : ∀ k, k < 16 → t.held.testBit k = true → 0 ≤ t.old k ∧ t.old k ≤ 1000000 := fun k hk hb => by rw [ho]; exact h.ol n t0 k ht0 hk (by rw [← hh]; exact hb)
  unfold TW.lock
  cases hw : wanted t with
  | some s =>
    simp only
    split
    · exact h.turn rfl (freed_b hold h.lo) (fun s _ hb => by simp [Th.none] at hb)
    · refine h.turn rfl (fun k hk => ?_) (fun k hk hb => ?_)
      · simp only [upd_at]
        split
        · omega
        · exact h.lo k hk
      · simp only [testBit_set, upd_at] at hb ⊢
        by_cases e2 : k = s
        · subst e2; rw [if_pos rfl]; exact h.lo k hk
        · rw [if_neg e2]
          simp only [e2, decide_false, Bool.or_false] at hb
          exact hold k hk hb
  | none =>
    simp only
    split
    · exact h.turn rfl (freed_b hold h.lo) (fun s _ hb => by simp [Th.none] at hb)
    · exact h.turn rfl h.lo hold
theorem LkB.step {w : TW} {m k i : Nat} (h : LkB w) (ht : TOk w m k i) (hi : i ≤ 400000) {n : Nat} {t : Th} (ht0 : w.ths[n]? = some t) (hn : n ≤ 400000) : LkB (w.step n t) := by
  have hold : ∀ k, k < 16 → t.held.testBit k = true → 0 ≤ t.old k ∧ t.old k ≤ 1000000 := fun k hk hb => h.ol n t k ht0 hk hb
  unfold TW.step
  split
  · split
    · exact h.turn rfl h.lo (fun s _ hb => by simp [Th.none] at hb)
    · exact h.lock ht0 rfl rfl hn
  · split
    · exact h.lock ht0 rfl rfl hn
    · split
      · unfold TW.back
        split
        · exact h.turn rfl h.lo hold
        · have h1 := (ht.th n t ht0).now0
          have h2 := (ht.th n t ht0).now1
          exact h.turn rfl (freed_b (fun s _ _ => by omega) h.lo) (fun s _ hb => by simp [Th.none] at hb)
      · exact h
theorem LkB.doT {w : TW} {m k i : Nat} (h : LkB w) (ht : TOk w m k i) (hi : i ≤ 400000) {n : Nat} {t : Th} (ht0 : w.ths[n]? = some t) (hn : n ≤ 400000) (o : Tx) : LkB (w.doT n t o) := by
  have hold : ∀ k, k < 16 → t.held.testBit k = true → 0 ≤ t.old k ∧ t.old k ≤ 1000000 := fun k hk hb => h.ol n t k ht0 hk hb
  unfold TW.doT
  split
  · exact h.turn rfl h.lo (fun s _ hb => by simp [Th.none] at hb)
  · split
    · unfold TW.read
      split
      · exact h.evs rfl rfl
      · split
        · exact h.turn rfl (freed_b hold h.lo) (fun s _ hb => by simp [Th.none] at hb)
        · exact h.turn rfl h.lo hold
    · split
      · unfold TW.write
        split
        · exact h.turn rfl h.lo hold
        · split
          · exact h.turn rfl h.lo hold
          · exact h
      · split
        · exact h.step ht hi ht0 hn
        · split
          · exact h.turn rfl (freed_b hold h.lo) (fun s _ hb => by simp [Th.none] at hb)
          · exact h
theorem LkB.do_ {w : TW} {m k i : Nat} (h : LkB w) (ht : TOk w m k i) (hi : i ≤ 400000) (hk : k ≤ 400000) (o : Tx) : LkB (w.do_ o) := by
  unfold TW.do_
  split
  · exact h
  · split
    · exact h
    · rename_i t ht0
      have := (List.getElem?_eq_some_iff.1 ht0).1
      have := ht.ths
      exact h.doT ht hi ht0 (by omega) o
theorem LkB.fold {m n : Nat} (hn : n ≤ 400000) (l : List Tx) : ∀ {w : TW} {i : Nat}, LkB w → TOk w m n i → i + l.length ≤ 400000 → LkB (l.foldl TW.do_ w) := by
  induction l with
  | nil => intro w i h _ _; exact h
  | cons o l ih => intro w i h ht hl; rw [List.length_cons] at hl; exact ih (h.do_ ht (by omega) hn o) (ht.do_ o) (by omega)
theorem LkB.run (words threads : Nat) (l : List Tx) (h1 : threads ≤ 400000) (h2 : l.length ≤ 400000) : LkB (runT words threads l) := LkB.fold h1 l (LkB.init words threads) (TOk.init words threads) (by omega)

/-- what newer asks of a thread's locks -/
structure NwOk (n : Nat) (locks : Nat → Int) (t : Th) : Prop where
  held : ∀ s, s < 16 → (t.held.testBit s = true ↔ locks s = 2 * n + 1)
  even : ∀ s, s < 16 → t.held.testBit s = true → t.old s % 2 = 0
  old : ∀ s, s < 16 → t.held.testBit s = true → 0 ≤ t.old s ∧ t.old s ≤ 1000000
  lo : ∀ s, s < 16 → 0 ≤ locks s ∧ locks s ≤ 1000000
theorem NwOk.of {w : TW} (h : LkInv w) (hb : LkB w) {n : Nat} {t : Th} (ht : w.ths[n]? = some t) : NwOk n w.locks t :=
  ⟨fun s hs => h.held n t s ht hs, fun s hs b => h.old n t s ht hs b, fun s hs b => hb.ol n t s ht hs b, hb.lo⟩
theorem NwOk.same {n : Nat} {locks : Nat → Int} {t u : Th} (h : NwOk n locks t) (h1 : u.held = t.held) (h2 : u.old = t.old) : NwOk n locks u := by
  constructor
  · rw [h1]; exact h.held
  · rw [h1, h2]; exact h.even
  · rw [h1, h2]; exact h.old
  · exact h.lo

theorem LkInv.run (words threads : Nat) (l : List Tx) : LkInv (runT words threads l) := LkInv.fold l (LkInv.init words threads) (TOk.init words threads)
end

end Go.Proofs.Ytlphjkgjcfhihaa

/- Put together by merge.py out of XBnA.lean.tpl, XBnB.lean.tpl, XBnC.lean.tpl, XBnD.lean.tpl, XBnE.lean.tpl, XBnF.lean.tpl. -/
import Derived.Test.YtopdcjimpdalpaaGreatMEmR
import Derived.Test.YtopdcjimpdalpaaGreatPlayD
import Derived.Test.YtopdcjimpdalpaaGreatMEmP
import Derived.Test.YtopdcjimpdalpaaGreatPlayR
import Derived.Deep.CutRange
import Derived.Deep.RegionWith
import Derived.StillTailTactics
namespace Go.Proofs.YtopdcjimpdalpaaGreat
open Go.RowKit
set_option linter.unusedVariables false
set_option linter.unusedSimpArgs false

section
/-- a thread, quick: registers, place, stores that wait, what it told, how it ended -/
structure FT where
  reg : List Int
  at_ : Int
  wait : List (Int × Int)
  out : List Int
  fin : Int
/-- memory, quick: what was written, the youngest first -/
def lkM : List (Int × Int) → Int → Int
  | [], _ => 0
  | c :: l, a => if c.1 = a then c.2 else lkM l a
def FT.r (f : FT) (i : Int) : Int := f.reg.getD i.toNat 0
def FT.goes (f : FT) (i v : Int) : FT := { f with reg := f.reg.set i.toNat v, at_ := f.at_ + 1 }
def fnd (f : FT) (M : List (Int × Int)) (a : Int) : Int := (findS f.wait a).getD (lkM M a)
/-- one instruction of a thread that goes on; none: not told here -/
def fstep (code : List OpD) (sz : Int) (M : List (Int × Int)) (f : FT) : Option (List (Int × Int) × FT) :=
  match code[f.at_.toNat]? with
  | none => none
  | some o =>
    if f.at_ < 0 ∨ f.reg.length ≠ 8 ∨ o.a < 0 ∨ 8 ≤ o.a ∨ o.b < 0 ∨ 8 ≤ o.b then none
    else if o.kind = 1 then some (M, f.goes o.a o.n)
    else if o.kind = 2 then some (M, f.goes o.a (f.r o.b))
    else if o.kind = 3 then (match calcS o.cal (f.r o.a) (f.r o.b) with
      | none => none
      | some v => some (M, f.goes o.a v))
    else if o.kind = 6 then some (M, { f with at_ := o.n })
    else if o.kind = 7 then some (M, { f with at_ := if f.r o.a = 0 then o.n else f.at_ + 1 })
    else if o.kind = 11 then some (M, { f with at_ := f.at_ + 1, out := f.out ++ [f.r o.a] })
    else if o.kind = 12 then some (M, { f with at_ := f.at_ + 1 })
    else if o.kind = 14 then some (M, { f with fin := 1 })
    else if o.kind = 4 ∨ o.kind = 15 then
      (if 0 ≤ w64 (f.r o.b + o.n) ∧ w64 (f.r o.b + o.n) < sz then some (M, f.goes o.a (fnd f M (w64 (f.r o.b + o.n)))) else none)
    else if o.kind = 5 then
      (if 0 ≤ w64 (f.r o.a + o.n) ∧ w64 (f.r o.a + o.n) < sz ∧ f.wait.length < 64 then some (M, { f with at_ := f.at_ + 1, wait := f.wait ++ [(w64 (f.r o.a + o.n), f.r o.b)] }) else none)
    else if o.kind = 8 then
      (if 0 ≤ w64 (f.r o.a + o.n) ∧ w64 (f.r o.a + o.n) < sz ∧ f.wait = [] ∧ 0 ≤ o.c ∧ o.c < 8 then
        some (if lkM M (w64 (f.r o.a + o.n)) = f.r o.b then (w64 (f.r o.a + o.n), f.r o.c) :: M else M, f.goes o.b (lkM M (w64 (f.r o.a + o.n)))) else none)
    else if o.kind = 9 then
      (if 0 ≤ w64 (f.r o.a + o.n) ∧ w64 (f.r o.a + o.n) < sz ∧ f.wait = [] then
        some ((w64 (f.r o.a + o.n), w64 (lkM M (w64 (f.r o.a + o.n)) + f.r o.b)) :: M, f.goes o.b (lkM M (w64 (f.r o.a + o.n)))) else none)
    else none
def fflush (M : List (Int × Int)) (f : FT) : List (Int × Int) × FT := match f.wait with
  | [] => (M, f)
  | c :: r => (c :: M, { f with wait := r })
/-- a step and a flush, while the thread has not ended -/
def fboth (code : List OpD) (sz : Int) (M : List (Int × Int)) (f : FT) : Option (List (Int × Int) × FT) :=
  if f.fin ≠ 0 then some (fflush M f) else match fstep code sz M f with
  | none => none
  | some (M', f') => some (fflush M' f')
def frun (code : List OpD) (sz : Int) : Nat → List (Int × Int) → FT → Option (List (Int × Int) × FT)
  | 0, M, f => some (M, f)
  | k + 1, M, f => match fboth code sz M f with
    | none => none
    | some (M', f') => frun code sz k M' f'

/-- the machine stands so, seen by thread n alone -/
structure Rep (mm : MM) (n : Nat) (code : List OpD) (sz : Int) (M : List (Int × Int)) (f : FT) : Prop where
  th : ∃ t, mm.ths[n]? = some t ∧ t.code = code ∧ (∀ i, i < 8 → t.reg i = f.reg.getD i 0) ∧ t.at_ = f.at_ ∧ t.wait = f.wait ∧ t.out = f.out ∧ t.fin = f.fin
  len : (mm.mem.length : Int) = sz
  mem : ∀ a : Int, 0 ≤ a → a < sz → mm.at a = lkM M a
  wt : ∀ c ∈ f.wait, 0 ≤ c.1 ∧ c.1 < sz
  rl : f.reg.length = 8

variable {mm : MM} {n : Nat} {code : List OpD} {sz : Int} {M M' : List (Int × Int)} {f f' : FT}
/-- the others stay -/
def Oth (n : Nat) (a b : MM) : Prop := ∀ j, j ≠ n → b.ths[j]? = a.ths[j]?

theorem at_set {m : List Int} {evs : List Ev} {ths : List MT} {a b v : Int} (ha : 0 ≤ a) (hl : a < m.length) (hb : 0 ≤ b) : (MM.mk (m.set a.toNat v) ths evs).at b = if a = b then v else (MM.mk m ths evs).at b := by
  unfold MM.at
  simp only [List.getD_eq_getElem?_getD]
  by_cases e : a = b
  · subst e
    rw [if_pos rfl, List.getElem?_set_self (by omega)]
    rfl
  · rw [if_neg e, List.getElem?_set_ne (by omega)]

theorem Rep.flush (h : Rep mm n code sz M f) : Rep (mm.flush n).2 n code sz (fflush M f).1 (fflush M f).2 ∧ Oth n mm (mm.flush n).2 := by
  obtain ⟨t, ht, h1, h2, h3, h4, h5, h6⟩ := h.th
  have hthr : mm.thr (n : Int) = some t := by unfold MM.thr; rw [if_neg (by omega), Int.toNat_natCast]; exact ht
  have hn := (List.getElem?_eq_some_iff.1 ht).1
  cases hw : t.wait with
  | nil =>
    have e1 : mm.flush n = (false, mm) := by unfold MM.flush; rw [hthr]; simp only [hw]
    rw [e1]
    rw [hw] at h4
    have : fflush M f = (M, f) := by unfold fflush; rw [← h4]
    rw [this]
    exact ⟨h, fun _ _ => rfl⟩
  | cons c r =>
    have e1 : mm.flush n = (true, MM.mk (mm.mem.set c.1.toNat c.2) (mm.ths.set n { t with wait := r }) mm.evs) := by unfold MM.flush; rw [hthr]; simp only [hw, MM.put, Int.toNat_natCast]
    rw [e1]
    rw [hw] at h4
    have : fflush M f = (c :: M, { f with wait := r }) := by unfold fflush; rw [← h4]
    rw [this]
    have hc := h.wt c (by rw [← h4]; exact List.mem_cons_self)
    refine ⟨⟨⟨{ t with wait := r }, ?_, h1, h2, h3, rfl, h5, h6⟩, ?_, ?_, ?_, h.rl⟩, ?_⟩
    · simp [hn]
    · simp [h.len]
    · intro a ha hl
      rw [at_set hc.1 (by rw [h.len]; exact hc.2) ha]
      show _ = if c.1 = a then c.2 else lkM M a
      by_cases e : c.1 = a
      · rw [if_pos e, if_pos e]
      · rw [if_neg e, if_neg e]
        exact h.mem a ha hl
    · intro x hx
      exact h.wt x (by rw [← h4]; exact List.mem_cons_of_mem _ hx)
    · intro j hj
      exact List.getElem?_set_ne (fun e => hj e.symm)

theorem reg_goes {t : MT} (h2 : ∀ i, i < 8 → t.reg i = f.reg.getD i 0) (rl : f.reg.length = 8) {i : Int} (hi : 0 ≤ i) (hi8 : i < 8) (v : Int) : ∀ j, j < 8 → (t.goes i v).reg j = (f.goes i v).reg.getD j 0 := by
  intro j hj
  simp only [MT.goes, FT.goes, upd, List.getD_eq_getElem?_getD]
  by_cases e : j = i.toNat
  · subst e
    rw [if_pos rfl, List.getElem?_set_self (by omega)]
    rfl
  · rw [if_neg e, List.getElem?_set_ne (fun q => e q.symm), h2 j hj, List.getD_eq_getElem?_getD]

set_option maxHeartbeats 4000000 in
theorem Rep.step (h : Rep mm n code sz M f) (hf : f.fin = 0) (hs : fstep code sz M f = some (M', f')) : Rep (mm.step n).2 n code sz M' f' ∧ Oth n mm (mm.step n).2 := by
  obtain ⟨t, ht, h1, h2, h3, h4, h5, h6⟩ := h.th
  have hthr : mm.thr (n : Int) = some t := by unfold MM.thr; rw [if_neg (by omega), Int.toNat_natCast]; exact ht
  have hn := (List.getElem?_eq_some_iff.1 ht).1
  have hoth : ∀ x : MT, ∀ j, j ≠ n → (mm.ths.set n x)[j]? = mm.ths[j]? := fun x j hj => List.getElem?_set_ne (fun e => hj e.symm)
  unfold MM.step
  rw [hthr]
  simp only [Int.toNat_natCast]
  rw [if_neg (by rw [h6, hf]; simp)]
  unfold fstep at hs
  cases ho : code[f.at_.toNat]? with
  | none => rw [ho] at hs; cases hs
  | some o =>
    rw [ho] at hs
    simp only at hs
    by_cases hb : f.at_ < 0 ∨ f.reg.length ≠ 8 ∨ o.a < 0 ∨ 8 ≤ o.a ∨ o.b < 0 ∨ 8 ≤ o.b
    · rw [if_pos hb] at hs; cases hs
    rw [if_neg hb] at hs
    have hra : t.r o.a = f.r o.a := by unfold MT.r FT.r; exact h2 _ (by omega)
    have hrb : t.r o.b = f.r o.b := by unfold MT.r FT.r; exact h2 _ (by omega)
    have hcode : (if t.at_ < 0 then none else t.code[t.at_.toNat]?) = some o := by rw [h3, if_neg (by omega), h1]; exact ho
    unfold MM.go
    rw [hcode]
    simp only
    have plain : ∀ (t' : MT) (f' : FT) (evs : List Ev), t'.code = code → (∀ i, i < 8 → t'.reg i = f'.reg.getD i 0) → t'.at_ = f'.at_ → t'.wait = f'.wait → t'.out = f'.out → t'.fin = f'.fin → (∀ c ∈ f'.wait, 0 ≤ c.1 ∧ c.1 < sz) → f'.reg.length = 8 →
        Rep ⟨mm.mem, mm.ths.set n t', evs⟩ n code sz M f' ∧ Oth n mm ⟨mm.mem, mm.ths.set n t', evs⟩ := fun t' f' evs q1 q2 q3 q4 q5 q6 q7 q8 =>
      ⟨⟨⟨t', by simp [hn], q1, q2, q3, q4, q5, q6⟩, h.len, h.mem, q7, q8⟩, hoth t'⟩
    have glen : ∀ i v, (f.goes i v).reg.length = 8 := fun i v => by simp [FT.goes, h.rl]
    by_cases k1 : o.kind = 1
    · rw [if_pos k1] at hs
      cases hs
      have hw : t.word o = none := by unfold MT.word; rw [if_neg (by omega), if_neg (by omega)]
      have hwt : t.waits o = false := by unfold MT.waits; rw [if_neg (by omega), if_neg (by omega)]
      simp only [hw, hwt, MM.act, if_pos k1]
      exact plain _ _ _ h1 (reg_goes h2 h.rl (by omega) (by omega) _) (by simp [MT.goes, FT.goes, h3]) h4 h5 h6 h.wt (glen _ _)
    rw [if_neg k1] at hs
    by_cases k2 : o.kind = 2
    · rw [if_pos k2] at hs
      cases hs
      have hw : t.word o = none := by unfold MT.word; rw [if_neg (by omega), if_neg (by omega)]
      have hwt : t.waits o = false := by unfold MT.waits; rw [if_neg (by omega), if_neg (by omega)]
      simp only [hw, hwt, MM.act, if_neg k1, if_pos k2, hrb]
      exact plain _ _ _ h1 (reg_goes h2 h.rl (by omega) (by omega) _) (by simp [MT.goes, FT.goes, h3]) h4 h5 h6 h.wt (glen _ _)
    rw [if_neg k2] at hs
    by_cases k3 : o.kind = 3
    · rw [if_pos k3] at hs
      have hw : t.word o = none := by unfold MT.word; rw [if_neg (by omega), if_neg (by omega)]
      have hwt : t.waits o = false := by unfold MT.waits; rw [if_neg (by omega), if_neg (by omega)]
      simp only [hw, hwt, MM.act, if_neg k1, if_neg k2, if_pos k3, hra, hrb]
      cases hc : calcS o.cal (f.r o.a) (f.r o.b) with
      | none => rw [hc] at hs; cases hs
      | some v =>
        rw [hc] at hs
        cases hs
        exact plain _ _ _ h1 (reg_goes h2 h.rl (by omega) (by omega) _) (by simp [MT.goes, FT.goes, h3]) h4 h5 h6 h.wt (glen _ _)
    rw [if_neg k3] at hs
    by_cases k6 : o.kind = 6
    · rw [if_pos k6] at hs
      cases hs
      have hw : t.word o = none := by unfold MT.word; rw [if_neg (by omega), if_neg (by omega)]
      have hwt : t.waits o = false := by unfold MT.waits; rw [if_neg (by omega), if_neg (by omega)]
      simp only [hw, hwt, MM.act, if_neg k1, if_neg k2, if_neg k3, if_neg (show ¬ o.kind = 4 by omega), if_neg (show ¬ o.kind = 5 by omega), if_pos k6]
      exact plain _ _ _ h1 h2 rfl h4 h5 h6 h.wt h.rl
    rw [if_neg k6] at hs
    by_cases k7 : o.kind = 7
    · rw [if_pos k7] at hs
      cases hs
      have hw : t.word o = none := by unfold MT.word; rw [if_neg (by omega), if_neg (by omega)]
      have hwt : t.waits o = false := by unfold MT.waits; rw [if_neg (by omega), if_neg (by omega)]
      simp only [hw, hwt, MM.act, if_neg k1, if_neg k2, if_neg k3, if_neg (show ¬ o.kind = 4 by omega), if_neg (show ¬ o.kind = 5 by omega), if_neg k6, if_pos k7, hra]
      exact plain _ _ _ h1 h2 (by rw [h3]) h4 h5 h6 h.wt h.rl
    rw [if_neg k7] at hs
    by_cases k11 : o.kind = 11
    · rw [if_pos k11] at hs
      cases hs
      have hw : t.word o = none := by unfold MT.word; rw [if_neg (by omega), if_neg (by omega)]
      have hwt : t.waits o = false := by unfold MT.waits; rw [if_neg (by omega), if_neg (by omega)]
      simp only [hw, hwt, MM.act, if_neg k1, if_neg k2, if_neg k3, if_neg (show ¬ o.kind = 4 by omega), if_neg (show ¬ o.kind = 5 by omega), if_neg k6, if_neg k7, if_neg (show ¬ o.kind = 8 by omega), if_neg (show ¬ o.kind = 9 by omega), if_neg (show ¬ o.kind = 10 by omega), if_pos k11, hra]
      exact plain _ _ _ h1 h2 (by simp [MT.next, h3]) h4 (by simp [MT.next, h5]) h6 h.wt h.rl
    rw [if_neg k11] at hs
    by_cases k12 : o.kind = 12
    · rw [if_pos k12] at hs
      cases hs
      have hw : t.word o = none := by unfold MT.word; rw [if_neg (by omega), if_neg (by omega)]
      have hwt : t.waits o = false := by unfold MT.waits; rw [if_neg (by omega), if_neg (by omega)]
      simp only [hw, hwt, MM.act, if_neg k1, if_neg k2, if_neg k3, if_neg (show ¬ o.kind = 4 by omega), if_neg (show ¬ o.kind = 5 by omega), if_neg k6, if_neg k7, if_neg (show ¬ o.kind = 8 by omega), if_neg (show ¬ o.kind = 9 by omega), if_neg (show ¬ o.kind = 10 by omega), if_neg k11, if_pos k12]
      exact plain _ _ _ h1 h2 (by simp [MT.next, h3]) h4 h5 h6 h.wt h.rl
    rw [if_neg k12] at hs
    by_cases k14 : o.kind = 14
    · rw [if_pos k14] at hs
      cases hs
      have hw : t.word o = none := by unfold MT.word; rw [if_neg (by omega), if_neg (by omega)]
      have hwt : t.waits o = false := by unfold MT.waits; rw [if_neg (by omega), if_neg (by omega)]
      simp only [hw, hwt, MM.act, if_neg k1, if_neg k2, if_neg k3, if_neg (show ¬ o.kind = 4 by omega), if_neg (show ¬ o.kind = 5 by omega), if_neg k6, if_neg k7, if_neg (show ¬ o.kind = 8 by omega), if_neg (show ¬ o.kind = 9 by omega), if_neg (show ¬ o.kind = 10 by omega), if_neg k11, if_neg k12, if_neg (show ¬ o.kind = 13 by omega), if_pos k14]
      exact plain _ _ _ h1 h2 h3 h4 h5 rfl h.wt h.rl
    rw [if_neg k14] at hs
    by_cases k4 : o.kind = 4 ∨ o.kind = 15
    · rw [if_pos k4] at hs
      split at hs
      · rename_i hr
        cases hs
        have hw : t.word o = some (w64 (f.r o.b + o.n)) := by unfold MT.word; rw [if_pos k4, hrb]
        have hwt : t.waits o = false := by unfold MT.waits; rw [if_neg (by omega), if_neg (by omega)]
        have hhas : mm.has (w64 (f.r o.b + o.n)) = true := by unfold MM.has; rw [decide_eq_true_eq, h.len]; exact hr
        have hfo : mm.found t (w64 (f.r o.b + o.n)) = fnd f M (w64 (f.r o.b + o.n)) := by unfold MM.found fnd; rw [h4, h.mem _ hr.1 hr.2]
        simp only [hw, hwt, hhas, if_true, MM.act, if_neg k1, if_neg k2, if_neg k3, if_neg k6, if_neg k7, if_neg k11, if_neg k12, if_neg k14, if_neg (show ¬ o.kind = 5 by omega), if_neg (show ¬ o.kind = 8 by omega), if_neg (show ¬ o.kind = 9 by omega), if_neg (show ¬ o.kind = 10 by omega), if_neg (show ¬ o.kind = 13 by omega), hfo]
        rcases k4 with k4 | k15
        · simp only [if_pos k4]
          exact plain _ _ _ h1 (reg_goes h2 h.rl (by omega) (by omega) _) (by simp [MT.goes, FT.goes, h3]) h4 h5 h6 h.wt (glen _ _)
        · simp only [if_neg (show ¬ o.kind = 4 by omega), if_pos k15]
          exact plain _ _ _ h1 (reg_goes h2 h.rl (by omega) (by omega) _) (by simp [MT.goes, FT.goes, h3]) h4 h5 h6 h.wt (glen _ _)
      · cases hs
    rw [if_neg k4] at hs
    by_cases k5 : o.kind = 5
    · rw [if_pos k5] at hs
      split at hs
      · rename_i hr
        cases hs
        have hw : t.word o = some (w64 (f.r o.a + o.n)) := by unfold MT.word; rw [if_neg k4, if_pos (by omega), hra]
        have hwt : t.waits o = false := by unfold MT.waits; rw [if_pos k5, h4]; simp; omega
        have hhas : mm.has (w64 (f.r o.a + o.n)) = true := by unfold MM.has; rw [decide_eq_true_eq, h.len]; exact ⟨hr.1, hr.2.1⟩
        simp only [hw, hwt, hhas, if_true, MM.act, if_neg k1, if_neg k2, if_neg k3, if_neg (show ¬ o.kind = 4 by omega), if_pos k5, hrb]
        exact plain _ _ _ h1 h2 (by simp [MT.next, h3]) (by simp [MT.next, h4]) h5 h6 (fun c hc => by
          rcases List.mem_append.1 hc with hc | hc
          · exact h.wt c hc
          · simp at hc; subst hc; exact ⟨hr.1, hr.2.1⟩) h.rl
      · cases hs
    rw [if_neg k5] at hs
    have store : ∀ (a v : Int) (t' : MT) (f' : FT), 0 ≤ a → a < sz → t'.code = code → (∀ i, i < 8 → t'.reg i = f'.reg.getD i 0) → t'.at_ = f'.at_ → t'.wait = f'.wait → t'.out = f'.out → t'.fin = f'.fin → (∀ c ∈ f'.wait, 0 ≤ c.1 ∧ c.1 < sz) → f'.reg.length = 8 →
        Rep ⟨mm.mem.set a.toNat v, mm.ths.set n t', mm.evs⟩ n code sz ((a, v) :: M) f' ∧ Oth n mm ⟨mm.mem.set a.toNat v, mm.ths.set n t', mm.evs⟩ := fun a v t' f' ha hl q1 q2 q3 q4 q5 q6 q7 q8 =>
      ⟨⟨⟨t', by simp [hn], q1, q2, q3, q4, q5, q6⟩, by simp [h.len], fun b hb hbl => by
        rw [at_set ha (by rw [h.len]; exact hl) hb]
        show _ = if a = b then v else lkM M b
        by_cases e : a = b
        · rw [if_pos e, if_pos e]
        · rw [if_neg e, if_neg e]; exact h.mem b hb hbl, q7, q8⟩, hoth t'⟩
    by_cases k8 : o.kind = 8
    · rw [if_pos k8] at hs
      split at hs
      · rename_i hr
        cases hs
        have hw : t.word o = some (w64 (f.r o.a + o.n)) := by unfold MT.word; rw [if_neg k4, if_pos (by omega), hra]
        have hwt : t.waits o = false := by unfold MT.waits; rw [if_neg k5, if_pos (by omega), h4, hr.2.2.1]; rfl
        have hhas : mm.has (w64 (f.r o.a + o.n)) = true := by unfold MM.has; rw [decide_eq_true_eq, h.len]; exact ⟨hr.1, hr.2.1⟩
        have hrc : t.r o.c = f.r o.c := by unfold MT.r FT.r; exact h2 _ (by omega)
        simp only [hw, hwt, hhas, if_true, MM.act, if_neg k1, if_neg k2, if_neg k3, if_neg (show ¬ o.kind = 4 by omega), if_neg k5, if_neg k6, if_neg k7, if_pos k8, hrb, hrc, h.mem _ hr.1 hr.2.1]
        by_cases e : lkM M (w64 (f.r o.a + o.n)) = f.r o.b
        · simp only [if_pos e]
          exact store _ _ _ _ hr.1 hr.2.1 h1 (reg_goes h2 h.rl (by omega) (by omega) _) (by simp [MT.goes, FT.goes, h3]) h4 h5 h6 h.wt (glen _ _)
        · simp only [if_neg e]
          exact plain _ _ _ h1 (reg_goes h2 h.rl (by omega) (by omega) _) (by simp [MT.goes, FT.goes, h3]) h4 h5 h6 h.wt (glen _ _)
      · cases hs
    rw [if_neg k8] at hs
    by_cases k9 : o.kind = 9
    · rw [if_pos k9] at hs
      split at hs
      · rename_i hr
        cases hs
        have hw : t.word o = some (w64 (f.r o.a + o.n)) := by unfold MT.word; rw [if_neg k4, if_pos (by omega), hra]
        have hwt : t.waits o = false := by unfold MT.waits; rw [if_neg k5, if_pos (by omega), h4, hr.2.2]; rfl
        have hhas : mm.has (w64 (f.r o.a + o.n)) = true := by unfold MM.has; rw [decide_eq_true_eq, h.len]; exact ⟨hr.1, hr.2.1⟩
        simp only [hw, hwt, hhas, if_true, MM.act, if_neg k1, if_neg k2, if_neg k3, if_neg (show ¬ o.kind = 4 by omega), if_neg k5, if_neg k6, if_neg k7, if_neg k8, if_pos k9, hrb, h.mem _ hr.1 hr.2.1]
        exact store _ _ _ _ hr.1 hr.2.1 h1 (reg_goes h2 h.rl (by omega) (by omega) _) (by simp [MT.goes, FT.goes, h3]) h4 h5 h6 h.wt (glen _ _)
      · cases hs
    rw [if_neg k9] at hs
    cases hs

theorem timesS_n (th z : Int) : ∀ k, timesS ⟨2, th, z⟩ k = timesS ⟨2, th, 0⟩ k := by
  intro k
  induction k with
  | zero => rfl
  | succ k ih => unfold timesS; rw [ih]; rfl
theorem timesS_cons (p : PickD) : ∀ k, timesS p (k + 1) = onceS p ++ timesS p k := by
  intro k
  induction k with
  | zero => simp [timesS]
  | succ k ih =>
    have e : timesS p (k + 1 + 1) = timesS p (k + 1) ++ onceS p := rfl
    have e2 : timesS p (k + 1) = timesS p k ++ onceS p := rfl
    rw [e, ih, List.append_assoc, ← e2, ih]
theorem onceS_both (n : Nat) (z : Int) (mm : MM) (st : Int) : (doActs (mm, st) (onceS ⟨2, n, z⟩)).1 = ((mm.step n).2.flush n).2 := by
  have e : onceS ⟨2, n, z⟩ = [.step n, .flush n] := rfl
  rw [e]
  rfl
theorem Rep.both (h : Rep mm n code sz M f) (hs : fboth code sz M f = some (M', f')) (st : Int) : Rep (doActs (mm, st) (onceS ⟨2, n, 0⟩)).1 n code sz M' f' ∧ Oth n mm (doActs (mm, st) (onceS ⟨2, n, 0⟩)).1 := by
  rw [onceS_both]
  unfold fboth at hs
  split at hs
  · rename_i hf
    obtain ⟨t, ht, -, -, -, -, -, h6⟩ := h.th
    have hthr : mm.thr (n : Int) = some t := by unfold MM.thr; rw [if_neg (by omega), Int.toNat_natCast]; exact ht
    have e : (mm.step n).2 = mm := by unfold MM.step; rw [hthr]; simp only; rw [if_pos (by rw [h6]; exact hf)]
    rw [e]
    have h1 := h.flush
    rw [Option.some.injEq] at hs
    rw [hs] at h1
    exact h1
  · rename_i hf
    cases hq : fstep code sz M f with
    | none => rw [hq] at hs; cases hs
    | some p =>
      obtain ⟨M1, f1⟩ := p
      rw [hq] at hs
      simp only [Option.some.injEq] at hs
      have h1 := h.step (by simpa using hf) hq
      have h2 := h1.1.flush
      rw [hs] at h2
      exact ⟨h2.1, fun j hj => (h2.2 j hj).trans (h1.2 j hj)⟩
theorem Rep.run : ∀ (k : Nat) {mm : MM} {M : List (Int × Int)} {f : FT} (st : Int), Rep mm n code sz M f → frun code sz k M f = some (M', f') → Rep (doActs (mm, st) (timesS ⟨2, n, 0⟩ k)).1 n code sz M' f' ∧ Oth n mm (doActs (mm, st) (timesS ⟨2, n, 0⟩ k)).1 := by
  intro k
  induction k with
  | zero =>
    intro mm M f st h hs
    simp only [frun, Option.some.injEq, Prod.mk.injEq] at hs
    obtain ⟨rfl, rfl⟩ := hs
    exact ⟨h, fun _ _ => rfl⟩
  | succ k ih =>
    intro mm M f st h hs
    unfold frun at hs
    cases hq : fboth code sz M f with
    | none => rw [hq] at hs; cases hs
    | some p =>
      obtain ⟨M1, f1⟩ := p
      rw [hq] at hs
      simp only at hs
      obtain ⟨h1, h2⟩ := h.both hq st
      rw [timesS_cons, doActs_app]
      have e : doActs (mm, st) (onceS ⟨2, n, 0⟩) = ((doActs (mm, st) (onceS ⟨2, n, 0⟩)).1, (doActs (mm, st) (onceS ⟨2, n, 0⟩)).2) := rfl
      rw [e]
      have h4 := ih (doActs (mm, st) (onceS ⟨2, n, 0⟩)).2 h1 hs
      exact ⟨h4.1, fun j hj => (h4.2 j hj).trans (h2 j hj)⟩
/-- a thread that has ended and has nothing waiting stays so -/
theorem frun_end (hf : f.fin ≠ 0) (hw : f.wait = []) : ∀ k, frun code sz k M f = some (M, f) := by
  intro k
  induction k with
  | zero => rfl
  | succ k ih =>
    have : fboth code sz M f = some (M, f) := by unfold fboth; rw [if_pos hf]; unfold fflush; rw [hw]
    unfold frun
    rw [this]
    exact ih
theorem frun_succ (k : Nat) (M : List (Int × Int)) (f : FT) : frun code sz (k + 1) M f = (match fboth code sz M f with | none => none | some (M', f') => frun code sz k M' f') := rfl
theorem frun_add : ∀ (j : Nat) {M M1 : List (Int × Int)} {f f1 : FT} (k : Nat), frun code sz j M f = some (M1, f1) → frun code sz (j + k) M f = frun code sz k M1 f1 := by
  intro j
  induction j with
  | zero =>
    intro M M1 f f1 k h
    simp only [frun, Option.some.injEq, Prod.mk.injEq] at h
    obtain ⟨rfl, rfl⟩ := h
    rw [Nat.zero_add]
  | succ j ih =>
    intro M M1 f f1 k h
    rw [Nat.add_right_comm, frun_succ]
    rw [frun_succ] at h
    cases hq : fboth code sz M f with
    | none => rw [hq] at h; cases h
    | some p =>
      obtain ⟨Mp, fp⟩ := p
      rw [hq] at h
      exact ih k h
end

section
theorem rowsLen_take (rs : List (List Tx)) : ∀ j, rowsLen (rs.take j) ≤ rowsLen rs := by
  induction rs with
  | nil => intro j; simp
  | cons l rs ih =>
    intro j
    cases j with
    | zero => simp [rowsLen]
    | succ j => rw [List.take_succ_cons, rowsLen_cons, rowsLen_cons]; have := ih j; omega
theorem bn_put_over {c : Cd} {o : OpD} (h : (c.put o).over = false) : c.over = false := by
  unfold Cd.put at h
  split at h
  · simp at h
  · exact h
theorem prog_fits_take {t : TxC} {rs : List (List Tx)} (h : progLen rs ≤ 262144) (j : Nat) : (rowsCd t (rs.take j)).over = false ∧ (rowsCd t (rs.take j)).halt.over = false := by
  have h1 := (prog_fits (t := t) (rs := rs.take j) (by unfold progLen at *; have := rowsLen_take rs j; omega)).1
  exact ⟨bn_put_over h1, h1⟩

abbrev Ths := List (Value × List (Value × List Tx))
def progs (ts : Ths) : Nat := (ts.map fun t => progLen (rowsOf t)).sum
theorem progs_mem {ts : Ths} {t : Value × List (Value × List Tx)} (h : t ∈ ts) : progLen (rowsOf t) ≤ progs ts := by
  unfold progs
  induction ts with
  | nil => cases h
  | cons a l ih =>
    rw [List.map_cons, List.sum_cons]
    rcases List.mem_cons.1 h with rfl | h
    · omega
    · have := ih h; omega
theorem progs_take (ts : Ths) : ∀ j, progs (ts.take j) ≤ progs ts := by
  unfold progs
  induction ts with
  | nil => intro j; simp
  | cons a l ih =>
    intro j
    cases j with
    | zero => simp
    | succ j => rw [List.take_succ_cons, List.map_cons, List.sum_cons, List.map_cons, List.sum_cons]; have := ih j; omega
theorem codes_prog {words : Int} {n : Nat} {ts : Ths} {cs : List (Nat × List OpD)} (h : CodesAre words n ts cs) (hp : ∀ t ∈ ts, progLen (rowsOf t) ≤ 262144) : cs.map Prod.snd = ts.mapIdx (fun i t => xprog (imgTx words n i) (rowsOf t)) := by
  refine List.ext_getElem (by simp [h.len]) fun i h1 h2 => ?_
  have hi : i < cs.length := by simpa using h1
  have ht : i < ts.length := by rw [← h.len]; exact hi
  rw [List.getElem_map, List.getElem_mapIdx]
  obtain ⟨e1, e2⟩ := h.at_ i _ _ (List.getElem?_eq_getElem hi) (List.getElem?_eq_getElem ht)
  rw [e1]
  exact (prog_fits (hp _ (List.getElem_mem ht))).2.1
theorem lenSum_prog {words : Int} {n : Nat} {ts : Ths} {cs : List (Nat × List OpD)} (h : CodesAre words n ts cs) (hp : ∀ t ∈ ts, progLen (rowsOf t) ≤ 262144) : lenSum cs = progs ts := by
  have e : lenSum cs = ((cs.map Prod.snd).map List.length).sum := by unfold lenSum; rw [List.map_map]; rfl
  rw [e, codes_prog h hp]
  unfold progs
  congr 1
  refine List.ext_getElem (by simp) fun i h1 h2 => ?_
  simp [xprog_len]
theorem few_room {words : Int} {ts : Ths} (h : ts.length ≤ 4) (hm : mkErr words (imgZs ts.length) = 0) (hp : progs ts ≤ 262144) : ¬ Fail3 words ts := by
  have hp1 : ∀ t ∈ ts, progLen (rowsOf t) ≤ 262144 := fun t ht => Nat.le_trans (progs_mem ht) hp
  rintro (q | q | ⟨i, t, j, ht, hj, q⟩ | ⟨i, cs, hi, hc, q⟩)
  · omega
  · rw [hm] at q; cases q
  · have ht' := List.mem_of_getElem? ht
    have e : (t.2.take j).map Prod.snd = (rowsOf t).take j := by unfold rowsOf; rw [List.map_take]
    rw [e] at q
    obtain ⟨a, b⟩ := prog_fits_take (t := imgTx words ts.length i) (hp1 t ht') j
    rcases q with q | q
    · rw [a] at q; cases q
    · rw [b] at q; cases q
  · have := lenSum_prog hc (fun t ht => hp1 t (List.mem_of_mem_take ht))
    have := progs_take ts i
    omega

theorem tk_fit {n : Int} {s : Int × Bool} (h : s.1 + n ≤ 262144) : tk n s = (s.1 + n, s.2) := by unfold tk; rw [if_neg (by omega)]
theorem fin_fit (n : Nat) : ∀ {s : Int × Bool}, s.2 = false → s.1 + 4320 * n ≤ 262144 → (fin (imgZs n) s).2 = false := by
  induction n with
  | zero => intro s h _; exact h
  | succ n ih =>
    intro s h h2
    have e : adv 32 s = (s.1 + 4320, s.2) := by
      unfold adv
      rw [tk_fit (n := 32) (s := s) (by omega), tk_fit (n := 128) (by simp only; omega), tk_fit (n := 64) (by simp only; omega), tk_fit (n := 4096) (by simp only; omega)]
      simp only
      congr 1
      omega
    show (fin (imgZs n) (adv 32 s)).2 = false
    rw [e]
    exact ih h (by simp only; omega)
theorem mkErr_few {words : Int} {n : Nat} (h : 0 ≤ words) (h2 : words ≤ 65536) (hn : n ≤ 4) : mkErr words (imgZs n) = 0 := by
  rw [mkErr_fin h (fun j hj => imgZs_nonneg n _ (by unfold nth; rw [List.getD_eq_getElem?_getD, List.getElem?_eq_getElem hj]; exact List.getElem_mem hj)) (by rw [imgZs_len]; exact hn), if_neg]
  have e : s0 words = (words + 18, false) := by
    unfold s0
    rw [tk_fit (n := words) (by simp only; omega), tk_fit (n := 17) (by simp only; omega)]
    simp only
    congr 1
    omega
  rw [e, fin_fit n rfl (by simp only; omega)]
  decide

/-- the image of few rows -/
theorem image_few {w w' : World} {e : Ending} {words : Int} {ts : Ths} (h : ImagePost words ts w e w') (h0 : 0 ≤ words) (h1 : words ≤ 65536) (hn : ts.length ≤ 4) (hp : progs ts ≤ 262144) (ho : ∀ t ∈ ts, okRows words t.2 = true) :
    Below w.heap.size w w' ∧ ∃ (co : Option Addr) (cc : Nat) (cs : List (Nat × List OpD)), e = .returned (.tuple #[.agg #[.slice co cs.length cc, .int .i64 (imgSize words ts.length), .slice none 0 0], .int .i64 0]) ∧
      w'.ownsRow w.heap.size 57 1 (.slice co cs.length cc) cs.length (cs.map codeV1) ∧ CodesIn w' w.heap.size cs ∧
      cs.map Prod.snd = ts.mapIdx (fun i t => xprog (imgTx words ts.length i) (rowsOf t)) ∧ lenSum cs ≤ 262144 := by
  obtain ⟨hb, hr⟩ := h
  refine ⟨hb, ?_⟩
  have hm := mkErr_few (n := ts.length) h0 h1 hn
  rcases hr with ⟨en, -, ⟨-, q | ⟨t, ht, q⟩⟩ | ⟨-, q⟩⟩ | ⟨co, cc, cs, he, hown, hin, hare, hsum, -⟩
  · omega
  · rw [ho t ht] at q; cases q
  · exact absurd q (few_room hn hm hp)
  · exact ⟨co, cc, cs, he, hown, hin, codes_prog hare (fun t ht => Nat.le_trans (progs_mem ht) hp), hsum⟩
end

section
variable {w w' : World}

theorem fin_eq (n : Nat) : ∀ {s : Int × Bool}, s.1 + 4320 * n ≤ 262144 → fin (imgZs n) s = (s.1 + 4320 * n, s.2) := by
  induction n with
  | zero => intro s _; show s = _; simp
  | succ n ih =>
    intro s h2
    have e : adv 32 s = (s.1 + 4320, s.2) := by
      unfold adv
      rw [tk_fit (n := 32) (s := s) (by omega), tk_fit (n := 128) (by simp only; omega), tk_fit (n := 64) (by simp only; omega), tk_fit (n := 4096) (by simp only; omega)]
      simp only
      congr 1
      omega
    show fin (imgZs n) (adv 32 s) = _
    rw [e, ih (by simp only; omega)]
    simp only
    congr 1
    omega
theorem imgSize_few {words : Int} {n : Nat} (h : 0 ≤ words) (h2 : words ≤ 65536) (hn : n ≤ 4) : imgSize words n = words + 18 + 4320 * n := by
  unfold imgSize mkS
  rw [if_pos (mkErr_few h h2 hn)]
  have e : s0 words = (words + 18, false) := by
    unfold s0
    rw [tk_fit (n := words) (by simp only; omega), tk_fit (n := 17) (by simp only; omega)]
    simp only
    congr 1
    omega
  rw [e, fin_eq n (by simp only; omega)]
theorem imgTx_ok {words : Int} {n i : Nat} (h : mkErr words (imgZs n) = 0) (hi : i < n) : TxOk (imgTx words n i) := by
  obtain ⟨hp, hl⟩ := img_planned h
  have hx : (imgPs words n)[i]? = some ((imgPs words n).getD i ⟨0, 0, 0, 0, 0⟩) := by
    rw [List.getD_eq_getElem?_getD, List.getElem?_eq_getElem (by omega)]
    rfl
  exact hp.ok hx
theorem bn_lit {α : Type} {enc : α → List Value} {sz g : Nat} {T : TypeId} {l : List α} (he : ∀ a, (enc a).length = sz) (hg : w.heap[g]? = some (.cells (l.flatMap enc).toArray T (0, 0))) : RdT enc w sz (.slice (some ⟨g, 0, none⟩) l.length l.length) l :=
  ⟨flat_len he l, some ⟨g, 0, none⟩, l.length, rfl, Nat.le_refl _, fun _ => ⟨g, 0, rfl, lt_of_block hg, fun j u hj => by
    rw [Nat.zero_add]
    exact cell_of_block hg (by rw [List.getElem?_toArray]; exact hj)⟩⟩

/-- an image's code, as the machine reads it -/
theorem img_code {base : Nat} {co : Option Addr} {cc : Nat} {cs : List (Nat × List OpD)} (hown : w.ownsRow base 57 1 (.slice co cs.length cc) cs.length (cs.map codeV1)) (hin : CodesIn w base cs) (hok : ∀ p ∈ cs, AllOk p.2) :
    ∃ l : List (Value × List OpD), l.length = cs.length ∧ CodeAt w (.slice co l.length cc) l ∧ l.map (·.2) = cs.map Prod.snd := by
  refine ⟨cs.map fun p => (codeV1 p, p.2), by simp, ⟨?_, ?_, ?_⟩, by simp [Function.comp_def]⟩
  · have e : ∀ cs : List (Nat × List OpD), (cs.map fun p => (codeV1 p, p.2)).flatMap encC = cs.map codeV1 := by
      intro cs
      induction cs with
      | nil => rfl
      | cons a l ih => rw [List.map_cons, List.flatMap_cons, ih]; rfl
    have := Rd.of_own hown
    rw [List.length_map]
    unfold RdT
    rw [e, List.length_map]
    exact this
  · intro p hp
    obtain ⟨q, hq, rfl⟩ := List.mem_map.1 hp
    exact bn_lit encOp_len (hin.blk q hq).1
  · intro p hp
    obtain ⟨q, hq, rfl⟩ := List.mem_map.1 hp
    exact fun o ho => (hok q hq o ho).2

theorem img_check {mem : Int} {l : List (Value × List OpD)} {cs : List (Nat × List OpD)} (he : l.map (·.2) = cs.map Prod.snd) (hs : lenSum cs ≤ 262144) (hn : l.length ≤ 4) (hm : 1 ≤ mem ∧ mem ≤ 262144) (hok : ∀ p ∈ cs, AllOk p.2) : checkM mem l [] = 0 := by
  have hc : countS l ≤ lenSum cs := by
    have e1 : countS l = ((l.map (·.2)).map fun c => min c.length 262145).sum := by unfold countS; rw [List.map_map]; rfl
    have e2 : lenSum cs = ((cs.map Prod.snd).map List.length).sum := by unfold lenSum; rw [List.map_map]; rfl
    rw [e1, e2, he]
    generalize cs.map Prod.snd = m
    induction m with
    | nil => simp
    | cons a r ih => simp only [List.map_cons, List.sum_cons]; omega
  have ha : (l.all fun p => p.2.all checkS) = true := by
    rw [List.all_eq_true]
    intro p hp
    have h1 : p.2 ∈ l.map (·.2) := List.mem_map_of_mem hp
    rw [he] at h1
    obtain ⟨q, hq, e⟩ := List.mem_map.1 h1
    rw [← e, List.all_eq_true]
    exact fun o ho => (hok q hq o ho).1
  unfold checkM
  rw [if_neg (by omega), if_neg (by omega), if_neg (by rw [ha]; simp), if_neg (by simp [cellsOk])]

def bothS (os : List Int) : List PickD := os.map fun z => ⟨2, z, 20000⟩
theorem bothS_len (os : List Int) : (bothS os).length = os.length := by simp [bothS]
theorem bothS_total (os : List Int) : total (bothS os) = 40000 * os.length := by
  unfold total bothS
  induction os with
  | nil => simp
  | cons a l ih =>
    simp only [List.map_cons, List.sum_cons, List.length_cons]
    rw [ih]
    have : plen ⟨2, a, 20000⟩ = 40000 := rfl
    rw [this]
    omega
theorem bothS_ok {os : List Int} (h : os.length ≤ 4) : (lengthS (bothS os)).2 = 0 := by
  unfold lengthS
  rw [if_neg (by rw [bothS_len]; omega), if_neg, if_neg (by rw [bothS_total]; omega)]
  rw [List.any_eq_true]
  rintro ⟨p, hp, hb⟩
  obtain ⟨z, hz, rfl⟩ := List.mem_map.1 hp
  simp [pbad] at hb
theorem bothS_n {os : List Int} : ∀ p ∈ bothS os, -9223372036854775808 ≤ p.n ∧ 0 ≤ p.kind := by
  intro p hp
  obtain ⟨z, hz, rfl⟩ := List.mem_map.1 hp
  exact ⟨show (-9223372036854775808 : Int) ≤ 20000 by decide, show (0 : Int) ≤ 2 by decide⟩
theorem pkInfo25 : (Tryz.prog.info? 42).map (fun i => (i.zero, i.size, i.bytes)) = some (some (.agg #[.int .u8 0, .int .i64 0, .int .i64 0]), 3, 24) := by kernel_rfl
theorem one_pk25 (p : PickD) : ∀ u ∈ encPk p, u.oneCell' = true := by intro u hu; simp [encPk] at hu; rcases hu with rfl | rfl | rfl <;> rfl

/-- the machine in the end -/
def toldM (words : Int) (ts : Ths) (os : List Int) : MM × Int := doActs (newM (imgSize words ts.length) (ts.mapIdx fun i t => xprog (imgTx words ts.length i) (rowsOf t)) [], 0) (actsS (bothS os))
def ToldPost (out : List (List Int × Int)) (w : World) (e : Ending) (w' : World) : Prop :=
  ∃ (ga : Nat) (ls : List SX), e = .returned (.slice (some ⟨ga, 0, none⟩) ls.length ls.length) ∧ RdT encS w' 2 (.slice (some ⟨ga, 0, none⟩) ls.length ls.length) ls ∧
    (∀ s ∈ ls, RdT encI w' 1 s.v s.out) ∧ ls.map (fun s => (s.out, s.fin)) = out ∧ Below w.heap.size w w'

set_option maxRecDepth 100000 in
set_option maxHeartbeats 8000000 in
theorem told_any {ta : Option Addr} {tc : Nat} {ts : Ths} (h : ThsAt w (.slice ta ts.length tc) ts) {words : Int} (h0 : 0 ≤ words) (h1 : words ≤ 65536) (hn : ts.length ≤ 4) (hp : progs ts ≤ 262144) (ho : ∀ t ∈ ts, okRows words t.2 = true)
    (hw : ∀ t ∈ ts, ∀ l ∈ rowsOf t, ∀ o ∈ l, TxWf o) {oa : Option Addr} {oc : Nat} {os : List Int} (hos : RdT encI w 1 (.slice oa os.length oc) os) (hol : os.length ≤ 4) {out : List (List Int × Int)} (hrun : (toldM words ts os).1.ths.map (fun t => (t.out, t.fin)) = out) :
    Calls Tryz.prog 31 #[.int .i64 words, .slice ta ts.length tc, .slice oa os.length oc] w (ToldPost out w) := by
  have H := hidI h
  have HW := hidI hw
  have HO := hidI ho
  have HP := hidI hp
  have HOS := hidI hos
  have HRUN := hidI hrun
  have HN := hidI hn
  have HOL := hidI hol
  have H0 := hidI h0
  have H1 := hidI h1
  have HM := hidI (mkErr_few (n := ts.length) h0 h1 hn)
  have HSZ := hidI (imgSize_few (n := ts.length) h0 h1 hn)
  clear h hw ho hp hos hrun hn hol h0 h1
  obtain ⟨i0, hi, hz0, hz1, hz2⟩ := info_parts pkInfo25
  go_enter Tryz.func31, Tryz.ntmps31
  go_wp2_with fail
  refine (image_any H.out (by have := HN.out; omega) words).mono ?_
  intro e w1 hpost
  obtain ⟨hb1, co, cc, cs, rfl, hown, hin, hcs, hsum⟩ := image_few hpost H0.out H1.out HN.out HP.out HO.out
  have hcl : cs.length = ts.length := by have := congrArg List.length hcs; simpa using this
  have hok : ∀ p ∈ cs, AllOk p.2 := by
    intro p hp
    obtain ⟨k, hk, e⟩ := List.getElem_of_mem hp
    have hkt : k < ts.length := by omega
    have h3 : (cs.map Prod.snd)[k]'(by simpa using hk) = (ts.mapIdx (fun i t => xprog (imgTx words ts.length i) (rowsOf t)))[k]'(by simpa using hkt) := by simp only [hcs]
    rw [List.getElem_map, List.getElem_mapIdx, e] at h3
    rw [h3]
    exact prog_ok (imgTx_ok HM.out hkt) (Nat.le_trans (progs_mem (List.getElem_mem hkt)) HP.out) (HW.out _ (List.getElem_mem hkt))
  obtain ⟨l, hll, hcode, hl2⟩ := img_code hown hin hok
  have hchk := img_check (mem := imgSize words ts.length) hl2 hsum (by have := HN.out; omega) (by have := HSZ.out; have := H0.out; have := H1.out; have := HN.out; omega) hok
  have HCO := hidI hcode
  have HCH := hidI hchk
  have HL2 := hidI (hl2.trans hcs)
  have HLL := hidI (show l.length ≤ 4 from by have := HN.out; omega)
  rw [← hll]
  have HB1 := hidI hb1
  have HOS1 := hidI (Rd.below HOS.out hb1)
  clear hb1 hown hin hcs hsum hcl hok hll hcode hl2 hchk hpost HOS H
  obtain ⟨mem, hmem⟩ : ∃ z, z = imgSize words ts.length := ⟨_, rfl⟩
  have HMEM := hidI hmem
  rw [← hmem] at HCH HSZ ⊢
  clear hmem
  go_wp2_with fail
  have HM1 := hidI (block_new w1 (.cells #[.slice co l.length cc, .int .i64 mem, .slice none 0 0] 30))
  have hbi := (Below.refl w1.heap.size w1).alloc (Nat.le_refl _) (.cells #[.slice co l.length cc, .int .i64 mem, .slice none 0 0] 30)
  have HBI := hidI (bnext HB1.out hbi)
  have HCO1 := hidI (HCO.out.below hbi)
  have HOS2 := hidI (Rd.below HOS1.out hbi)
  have HS0 := hidI (show w1.heap.size + 1 = (w1.alloc (.cells #[.slice co l.length cc, .int .i64 mem, .slice none 0 0] 30)).heap.size from by rw [World.size_alloc])
  generalize w1.alloc (.cells #[.slice co l.length cc, .int .i64 mem, .slice none 0 0] 30) = w2 at HM1 HBI HCO1 HOS2 HS0 hbi ⊢
  obtain ⟨bm, hbm⟩ : ∃ b, b = w1.heap.size := ⟨_, rfl⟩
  rw [← hbm] at HM1 HS0 ⊢
  have HSM := hidI (show w.heap.size ≤ bm from by have := HB1.out.size; omega)
  clear hbi hbm HOS1 HCO HB1
  go_loopw [9, 10] (fun v i wr => ∃ (j : Nat) (ao : Option Addr) (cp : Nat), j ≤ os.length ∧ i = .int .i64 (j : Int) ∧ v = .slice ao j cp ∧ Hid (wr.ownsRow (bm + 1) 42 3 (.slice ao j cp) j ((bothS (os.take j)).flatMap encPk)) ∧ Hid (Below w2.heap.size w2 wr) ∧ Hid (wr.heap[bm]? = some (.cells #[.slice co l.length cc, .int .i64 mem, .slice none 0 0] 30 (0, 0)))) (fun _ i _ => os.length - (intOf i).toNat)
  case atStart => exact ⟨0, none, 0, Nat.zero_le _, rfl, rfl, hidI (World.ownsRow_nil _ _ _ _), hidI (Below.refl _ _), HM1⟩
  case round =>
    obtain ⟨j, ao, cp, hj, rfl, rfl, HOR, HB, HM2⟩ := hrel
    have hol := HOL.out
    by_cases hlt : j < os.length
    · obtain ⟨z, hx⟩ := some_at hlt
      obtain ⟨g, off, rfl, hg, hc⟩ := RdT.at encI_len (Rd.below HOS2.out HB.out) hx
      have d0 : wr.cell? ⟨g, off + j, none⟩ = some (.int .i64 z) := by have := hc 0 _ rfl; simpa [encI] using this
      have HTK := hidI (take_snoc hx)
      have HJ := hidI hlt
      clear hx hc
      go_wp2_with (at_builtin; refine Hid.out ?_)
      refine wpList_append_d _ rfl _ _ 23 rfl (bm + 1) 42 i0 _ 3 24 Tryz.underlying23 hi hz0 hz1 hz2 rfl (by decide) (.slice ao j cp) j _ (by simp [Act.eval]) (ownsRow_chg HOR.out ((Chg.refl (fun _ => False) wr).alloc _) (fun _ _ => id)) ⟨wr.heap.size, 0, none⟩ 1 1 (encPk ⟨2, z, 20000⟩) (by simp [Act.eval]) rfl ?c1 ?c2 ?c3 ?c4 ?c5 ?_
      case c1 => exact news_at (block_new _ _)
      case c2 => exact one_pk25 _
      case c3 => have := HOL.out; have := HJ.out; unfold maxLen; omega
      case c4 => have := HOL.out; have := HJ.out; omega
      case c5 => have := HS0.out; have := HB.out.size; simp; omega
      intro ao5 cp5 w5 hown hfrom hgrown
      have hc5 : Chg (fun k => bm + 1 ≤ k) wr w5 := (((Chg.refl (fun k => bm + 1 ≤ k) wr)).alloc _).grown hgrown (fun k hk => .inl (HOR.out.lt k hk).1)
      have HB5 := hidI (hc5.below HB.out HB.out.size (fun k hk => by have := HS0.out; omega))
      have HM5 := hidI (chgblk hc5 HM2.out (by omega))
      have HO5 := hidI (show w5.ownsRow (bm + 1) 42 3 (.slice ao5 (j + 1) cp5) (j + 1) ((bothS (os.take (j + 1))).flatMap encPk) from by rw [HTK.out]; unfold bothS; rw [List.map_append, List.flatMap_append]; exact hown)
      clear hown hfrom hgrown hc5 d0
      go_wp2_with fail
      exact ⟨⟨j + 1, ao5, cp5, by omega, by go_num, rfl, HO5, HB5, HM5⟩, by simp [intOf]; omega⟩
    · obtain rfl : j = os.length := by omega
      have hor := HOR.out
      rw [List.take_length] at hor
      have HSC := hidI (show RdT encPk wr 3 (.slice ao (bothS os).length cp) (bothS os) from by unfold RdT; rw [bothS_len]; exact Rd.of_own hor)
      have hcr := HCO1.out.below HB.out
      have HCR := hidI hcr
      have m0 : wr.cell? ⟨bm, 0, none⟩ = some (.slice co l.length cc) := cell_of_block HM2.out rfl
      have m1 : wr.cell? ⟨bm, 1, none⟩ = some (.int .i64 mem) := cell_of_block HM2.out rfl
      have m2 : wr.cell? ⟨bm, 2, none⟩ = some (.slice none 0 0) := cell_of_block HM2.out rfl
      clear hor hcr
      go_wp2_with fail
      refine ((show Calls Tryz.prog 29 #[.agg #[.slice co l.length cc, .int .i64 mem, .slice none 0 0], .slice ao os.length cp] wr (RunTrace (doActs (newM mem (l.map (·.2)) [], 0) (actsS (bothS os))) wr) from by
        have h9 := run_yes (l := l) (cs := []) (sc := bothS os) (ca := co) (ccap := cc) (cca := none) (ccca := 0) (sa := ao) (scap := cp) HCR.out (Rd.nil _ 2) mem (by have := HLL.out; omega) (by simp) HCH.out HSC.out (by rw [bothS_len]; have := HOL.out; omega) bothS_n (bothS_ok HOL.out)
        rw [bothS_len] at h9
        exact h9)).mono ?_
      rintro e w6 ⟨ga, ls, ve, vec, rfl, hrow, hse, -, hms, hev, -, hb6⟩
      have HRW := hidI (Rd.of_own hrow)
      have HSE := hidI (show ∀ s ∈ ls, RdT encI w6 1 s.v s.out from fun s hs => Rd.of_own (hse s hs).1)
      have HMS := hidI (show ls.map (fun s => (s.out, s.fin)) = out from by
        rw [hms, ← HRUN.out]
        unfold toldM
        rw [← HL2.out, ← HMEM.out])
      have HB6 := hidI (bnext (bnext HBI.out HB.out) hb6)
      obtain ⟨st, hst⟩ : ∃ z, z = (doActs (newM mem (l.map (·.2)) [], 0) (actsS (bothS os))).2 := ⟨_, rfl⟩
      obtain ⟨ne, hne⟩ : ∃ z, z = (doActs (newM mem (l.map (·.2)) [], 0) (actsS (bothS os))).1.evs.length := ⟨_, rfl⟩
      rw [← hst, ← hne]
      clear hst hne hrow hse hms hev hb6
      go_wp2_with fail
      go_ret
      exact ⟨ga, ls, rfl, Rd.alloc HRW.out _, fun s hs => Rd.alloc (HSE.out s hs) _, HMS.out, HB6.out.alloc HB6.out.size _⟩
end

section
def cts : List Tx := [⟨0, 2, 1, 0⟩, ⟨0, 3, 1, 1⟩]
def f0 : FT := ⟨List.replicate 8 0, 0, [], [], 0⟩
def toldR (words : Int) (rs : List (List (List Tx))) (os : List Int) : MM × Int := doActs (newM (imgSize words rs.length) (rs.mapIdx fun i r => xprog (imgTx words rs.length i) r) [], 0) (actsS (bothS os))
theorem toldM_eq (words : Int) (ts : Ths) (os : List Int) : toldM words ts os = toldR words (ts.map rowsOf) os := by
  unfold toldM toldR
  rw [List.length_map]
  have e : (ts.map rowsOf).mapIdx (fun i r => xprog (imgTx words ts.length i) r) = ts.mapIdx fun i t => xprog (imgTx words ts.length i) (rowsOf t) := by
    refine List.ext_getElem (by simp) fun i h1 h2 => ?_
    simp
  rw [e]

variable {mm mm' : MM} {n m : Nat} {code : List OpD} {sz : Int} {M M' : List (Int × Int)} {f f' : FT}
theorem f0_reg : ∀ i, f0.reg.getD i 0 = 0 := by
  intro i
  simp only [f0, List.getD_eq_getElem?_getD, List.getElem?_replicate]
  split <;> rfl
theorem Rep.start {codes : List (List OpD)} (h : codes[n]? = some code) (hs : 0 ≤ sz) : Rep (newM sz codes []) n code sz [] f0 := by
  refine ⟨⟨MT.new code, by simp [newM, h], rfl, fun i _ => by rw [f0_reg]; rfl, rfl, rfl, rfl, rfl⟩, by simp [newM, fillS]; omega, fun a h1 h2 => ?_, fun c hc => by simp [f0] at hc, rfl⟩
  simp only [MM.at, newM, fillS, lkM, List.getD_eq_getElem?_getD]
  first
  | rfl
  | (simp [List.getElem?_replicate]; split <;> rfl)
theorem Rep.other (h : Rep mm' n code sz M f) (ho : Oth n mm mm') {c : List OpD} (hm : mm.ths[m]? = some (MT.new c)) (hne : m ≠ n) : Rep mm' m c sz M f0 :=
  ⟨⟨MT.new c, by rw [ho m hne]; exact hm, rfl, fun i _ => by rw [f0_reg]; rfl, rfl, rfl, rfl, rfl⟩, h.len, h.mem, fun c hc => by simp [f0] at hc, rfl⟩
theorem Rep.whole (h : Rep mm n code sz M f) {K : Nat} (hs : frun code sz K M f = some (M', f')) (hf : f'.fin ≠ 0) (hw : f'.wait = []) (hK : K ≤ 20000) (st : Int) :
    Rep (doActs (mm, st) (pickS ⟨2, n, 20000⟩)).1 n code sz M' f' ∧ Oth n mm (doActs (mm, st) (pickS ⟨2, n, 20000⟩)).1 := by
  have e : pickS ⟨2, n, 20000⟩ = timesS ⟨2, n, 0⟩ (K + (20000 - K)) := by
    rw [Nat.add_sub_cancel' hK]
    exact timesS_n n 20000 20000
  rw [e]
  refine Rep.run (K + (20000 - K)) st h ?_
  rw [frun_add K (20000 - K) hs]
  exact frun_end hf hw _

def okEnd (f : FT) (o : List Int) : Bool := decide (f.fin = 1) && f.wait.isEmpty && decide (f.out = o)
theorem okEnd_iff {f : FT} {o : List Int} (h : okEnd f o = true) : f.fin = 1 ∧ f.wait = [] ∧ f.out = o := by
  unfold okEnd at h
  simp only [Bool.and_eq_true, decide_eq_true_eq, List.isEmpty_iff] at h
  exact ⟨h.1.1, h.1.2, h.2⟩
def ok1 (c : List OpD) (sz : Int) (K : Nat) (o : List Int) : Bool := match frun c sz K [] f0 with
  | none => false
  | some (_, f) => okEnd f o
def ok2 (c c' : List OpD) (sz : Int) (K : Nat) (o o' : List Int) : Bool := match frun c sz K [] f0 with
  | none => false
  | some (M, f) => okEnd f o && (match frun c' sz K M f0 with
    | none => false
    | some (_, f') => okEnd f' o')

theorem end1 {c : List OpD} {K : Nat} {o : List Int} (hs : 0 ≤ sz) (hK : K ≤ 20000) (h : ok1 c sz K o = true) :
    (doActs (newM sz [c] [], 0) (actsS (bothS [0]))).1.ths.map (fun t => (t.out, t.fin)) = [(o, 1)] := by
  unfold ok1 at h
  cases hr : frun c sz K [] f0 with
  | none => rw [hr] at h; cases h
  | some p =>
    obtain ⟨M1, f1⟩ := p
    rw [hr] at h
    obtain ⟨e1, e2, e3⟩ := okEnd_iff h
    have hst : Rep (newM sz [c] []) 0 c sz [] f0 := Rep.start rfl hs
    obtain ⟨h1, h2⟩ := hst.whole hr (by rw [e1]; decide) e2 hK 0
    have ea : actsS (bothS [0]) = pickS ⟨2, (0 : Nat), 20000⟩ := by simp [actsS, bothS]
    rw [ea]
    generalize doActs (newM sz [c] [], 0) (pickS ⟨2, (0 : Nat), 20000⟩) = S at h1 h2 ⊢
    obtain ⟨t, ht, -, -, -, -, q5, q6⟩ := h1.th
    refine List.ext_getElem? fun i => ?_
    rw [List.getElem?_map]
    match i with
    | 0 => rw [ht]; simp [q5, q6, e1, e3]
    | i + 1 => rw [h2 (i + 1) (by omega)]; simp [newM]
theorem end2 {c c' : List OpD} {K : Nat} {o o' : List Int} {codes : List (List OpD)} {a b : Nat} (hab : a < 2 ∧ b < 2 ∧ a ≠ b) (hc : codes.length = 2) (ha : codes[a]? = some c) (hb : codes[b]? = some c') (hs : 0 ≤ sz) (hK : K ≤ 20000) (h : ok2 c c' sz K o o' = true) :
    ((doActs (newM sz codes [], 0) (actsS (bothS [(a : Int), (b : Int)]))).1.ths.map (fun t => (t.out, t.fin)))[a]? = some (o, 1) ∧
    ((doActs (newM sz codes [], 0) (actsS (bothS [(a : Int), (b : Int)]))).1.ths.map (fun t => (t.out, t.fin)))[b]? = some (o', 1) ∧
    (doActs (newM sz codes [], 0) (actsS (bothS [(a : Int), (b : Int)]))).1.ths.length = 2 := by
  unfold ok2 at h
  cases hr : frun c sz K [] f0 with
  | none => rw [hr] at h; cases h
  | some p =>
    obtain ⟨M1, f1⟩ := p
    rw [hr] at h
    simp only [Bool.and_eq_true] at h
    obtain ⟨h, h'⟩ := h
    cases hr' : frun c' sz K M1 f0 with
    | none => rw [hr'] at h'; cases h'
    | some p =>
      obtain ⟨M2, f2⟩ := p
      rw [hr'] at h'
      obtain ⟨e1, e2, e3⟩ := okEnd_iff h
      obtain ⟨d1, d2, d3⟩ := okEnd_iff h'
      have hst : Rep (newM sz codes []) a c sz [] f0 := Rep.start ha hs
      obtain ⟨h1, h2⟩ := hst.whole hr (by rw [e1]; decide) e2 hK 0
      have ea : actsS (bothS [(a : Int), (b : Int)]) = pickS ⟨2, (a : Nat), 20000⟩ ++ pickS ⟨2, (b : Nat), 20000⟩ := by simp [actsS, bothS]
      rw [ea, doActs_app]
      obtain ⟨⟨mm1, st1⟩, hS⟩ : ∃ S, S = doActs (newM sz codes [], 0) (pickS ⟨2, (a : Nat), 20000⟩) := ⟨_, rfl⟩
      rw [← hS] at h1 h2 ⊢
      have hx : (newM sz codes []).ths[b]? = some (MT.new c') := by simp [newM, hb]
      obtain ⟨h3, h4⟩ := (h1.other h2 hx (fun e => hab.2.2 e.symm)).whole hr' (by rw [d1]; decide) d2 hK st1
      generalize doActs (mm1, st1) (pickS ⟨2, (b : Nat), 20000⟩) = S at h3 h4 ⊢
      obtain ⟨t, ht, -, -, -, -, q5, q6⟩ := h1.th
      obtain ⟨u, hu, -, -, -, -, p5, p6⟩ := h3.th
      refine ⟨?_, ?_, ?_⟩
      · rw [List.getElem?_map, h4 a hab.2.2, ht]; simp [q5, q6, e1, e3]
      · rw [List.getElem?_map, hu]; simp [p5, p6, d1, d3]
      · have g2 : S.1.ths[2]? = none := by rw [h4 2 (by omega), h2 2 (by omega)]; simp [newM, hc]
        have ga : a < S.1.ths.length := by
          have : S.1.ths[a]? = some t := by rw [h4 a hab.2.2, ht]
          exact (List.getElem?_eq_some_iff.1 this).1
        have gb := (List.getElem?_eq_some_iff.1 hu).1
        have := List.getElem?_eq_none_iff.1 g2
        omega
theorem two_of {α : Type} {l : List α} {x y : α} (h0 : l[0]? = some x) (h1 : l[1]? = some y) (h : l.length = 2) : l = [x, y] := by
  match l, h with
  | [a, b], _ => simp at h0 h1; rw [h0, h1]

set_option maxRecDepth 100000
theorem run10 : ok2 (xprog (imgTx 1 2 1) [cts]) (xprog (imgTx 1 2 0) [cts]) (imgSize 1 2) 800 [0] [1] = true := by kernel_rfl
theorem run01 : ok2 (xprog (imgTx 1 2 0) [cts]) (xprog (imgTx 1 2 1) [cts]) (imgSize 1 2) 800 [0] [1] = true := by kernel_rfl
theorem runOne : ok1 (xprog (imgTx 1 1 0) [cts, cts]) (imgSize 1 1) 1600 [0, 1] = true := by kernel_rfl
theorem runNone : ok1 (xprog (imgTx 1 1 0) []) (imgSize 1 1) 9 [] = true := by kernel_rfl

theorem size_nn (n : Nat) (h : n ≤ 4) : 0 ≤ imgSize 1 n := by rw [imgSize_few (by decide) (by decide) h]; omega
theorem codes2 : (([[cts], [cts]] : List (List (List Tx))).mapIdx fun i r => xprog (imgTx 1 2 i) r) = [xprog (imgTx 1 2 0) [cts], xprog (imgTx 1 2 1) [cts]] := rfl
theorem codes1 (r : List (List Tx)) : (([r] : List (List (List Tx))).mapIdx fun i r => xprog (imgTx 1 1 i) r) = [xprog (imgTx 1 1 0) r] := rfl
theorem toldR2 (os : List Int) : toldR 1 [[cts], [cts]] os = doActs (newM (imgSize 1 2) [xprog (imgTx 1 2 0) [cts], xprog (imgTx 1 2 1) [cts]] [], 0) (actsS (bothS os)) := by
  unfold toldR
  rw [show ([[cts], [cts]] : List (List (List Tx))).length = 2 from rfl, codes2]
theorem toldR1 (r : List (List Tx)) (os : List Int) : toldR 1 [r] os = doActs (newM (imgSize 1 1) [xprog (imgTx 1 1 0) r] [], 0) (actsS (bothS os)) := by
  unfold toldR
  rw [show ([r] : List (List (List Tx))).length = 1 from rfl, codes1]
attribute [local irreducible] doActs actsS bothS xprog imgTx imgSize ok2 ok1 newM

theorem c0 : ((0 : Nat) : Int) = 0 := rfl
theorem c1 : ((1 : Nat) : Int) = 1 := rfl
theorem seen10 : (toldR 1 [[cts], [cts]] [1, 0]).1.ths.map (fun t => (t.out, t.fin)) = [([1], 1), ([0], 1)] := by
  have h := end2 (a := 1) (b := 0) (codes := [xprog (imgTx 1 2 0) [cts], xprog (imgTx 1 2 1) [cts]]) (sz := imgSize 1 2) (by omega) rfl rfl rfl (size_nn 2 (by decide)) (by omega) run10
  rw [toldR2]
  rw [c0, c1] at h
  exact two_of h.2.1 h.1 (by rw [List.length_map]; exact h.2.2)
theorem seen01 : (toldR 1 [[cts], [cts]] [0, 1]).1.ths.map (fun t => (t.out, t.fin)) = [([0], 1), ([1], 1)] := by
  have h := end2 (a := 0) (b := 1) (codes := [xprog (imgTx 1 2 0) [cts], xprog (imgTx 1 2 1) [cts]]) (sz := imgSize 1 2) (by omega) rfl rfl rfl (size_nn 2 (by decide)) (by omega) run01
  rw [toldR2]
  rw [c0, c1] at h
  exact two_of h.1 h.2.1 (by rw [List.length_map]; exact h.2.2)
theorem seenOne : (toldR 1 [[cts, cts]] [0]).1.ths.map (fun t => (t.out, t.fin)) = [([0, 1], 1)] := by
  rw [toldR1]
  exact end1 (c := xprog (imgTx 1 1 0) [cts, cts]) (sz := imgSize 1 1) (size_nn 1 (by decide)) (by omega) runOne
theorem seenNone : (toldR 1 [[]] [0]).1.ths.map (fun t => (t.out, t.fin)) = [([], 1)] := by
  rw [toldR1]
  exact end1 (c := xprog (imgTx 1 1 0) []) (sz := imgSize 1 1) (size_nn 1 (by decide)) (by omega) runNone
end

section
variable {w w' : World}

theorem counts_any (w : World) : Calls Tryz.prog 30 #[] w fun e w' => e = .returned (.slice (some ⟨w.heap.size, 0, none⟩) 2 2) ∧ w'.heap[w.heap.size]? = some (.cells (cts.flatMap encTxD).toArray 96 (0, 0)) ∧ Below w.heap.size w w' := by
  go_enter Tryz.func30, Tryz.ntmps30
  go_wp2_with fail
  go_ret
  exact ⟨rfl, block_new w _, (Below.refl _ _).alloc (Nat.le_refl _) _⟩

theorem rd_shape {α : Type} {enc : α → List Value} {sz : Nat} {v : Value} {l : List α} (h : RdT enc w sz v l) : ∃ ao c, v = .slice ao l.length c := by
  obtain ⟨h1, ao, cap, e, _⟩ := h
  exact ⟨ao, cap, e⟩
theorem told2 {e : Ending} {o o' : List Int} {k k' : Int} (h : ToldPost [(o, k), (o', k')] w e w') :
    ∃ ga a0 c0 a1 c1, e = .returned (.slice (some ⟨ga, 0, none⟩) 2 2) ∧ w'.cell? ⟨ga, 0, none⟩ = some (.slice a0 o.length c0) ∧ w'.cell? ⟨ga, 1, none⟩ = some (.int .u8 k) ∧ w'.cell? ⟨ga, 2, none⟩ = some (.slice a1 o'.length c1) ∧ w'.cell? ⟨ga, 3, none⟩ = some (.int .u8 k') ∧
      RdT encI w' 1 (.slice a0 o.length c0) o ∧ RdT encI w' 1 (.slice a1 o'.length c1) o' ∧ ga < w'.heap.size ∧ Below w.heap.size w w' := by
  obtain ⟨ga, ls, rfl, hr, hs, hm, hb⟩ := h
  obtain ⟨s, s', rfl⟩ : ∃ s s', ls = [s, s'] := by
    match ls, hm with
    | [s, s'], _ => exact ⟨s, s', rfl⟩
  obtain ⟨v, so, sf⟩ := s
  obtain ⟨v', so', sf'⟩ := s'
  simp only [List.map_cons, List.map_nil, List.cons.injEq, Prod.mk.injEq, and_true] at hm
  obtain ⟨⟨rfl, rfl⟩, rfl, rfl⟩ := hm
  have h0 := hs _ List.mem_cons_self
  have h1 := hs ⟨v', so', sf'⟩ (by simp)
  simp only at h0 h1
  obtain ⟨a0, c0, rfl⟩ := rd_shape h0
  obtain ⟨a1, c1, rfl⟩ := rd_shape h1
  obtain ⟨gb, co, e1, hgb, hcc⟩ := RdT.at encS_len hr (k := 0) rfl
  obtain ⟨gb', co', e1', hgb', hcc'⟩ := RdT.at encS_len hr (k := 1) rfl
  cases e1
  cases e1'
  exact ⟨ga, a0, c0, a1, c1, rfl, by have := hcc 0 _ rfl; simpa using this, by have := hcc 1 _ rfl; simpa using this, by have := hcc' 0 _ rfl; simpa using this, by have := hcc' 1 _ rfl; simpa using this, h0, h1, hgb, hb⟩
theorem told1 {e : Ending} {o : List Int} {k : Int} (h : ToldPost [(o, k)] w e w') :
    ∃ ga a0 c0, e = .returned (.slice (some ⟨ga, 0, none⟩) 1 1) ∧ w'.cell? ⟨ga, 0, none⟩ = some (.slice a0 o.length c0) ∧ w'.cell? ⟨ga, 1, none⟩ = some (.int .u8 k) ∧
      RdT encI w' 1 (.slice a0 o.length c0) o ∧ ga < w'.heap.size ∧ Below w.heap.size w w' := by
  obtain ⟨ga, ls, rfl, hr, hs, hm, hb⟩ := h
  obtain ⟨s, rfl⟩ : ∃ s, ls = [s] := by
    match ls, hm with
    | [s], _ => exact ⟨s, rfl⟩
  obtain ⟨v, so, sf⟩ := s
  simp only [List.map_cons, List.map_nil, List.cons.injEq, Prod.mk.injEq, and_true] at hm
  obtain ⟨rfl, rfl⟩ := hm
  have h0 := hs _ List.mem_cons_self
  simp only at h0
  obtain ⟨a0, c0, rfl⟩ := rd_shape h0
  obtain ⟨gb, co, e1, hgb, hcc⟩ := RdT.at encS_len hr (k := 0) rfl
  cases e1
  exact ⟨ga, a0, c0, rfl, by have := hcc 0 _ rfl; simpa using this, by have := hcc 1 _ rfl; simpa using this, h0, hgb, hb⟩

theorem cts_wf : ∀ o ∈ cts, TxWf o := by intro o ho; simp [cts] at ho; rcases ho with rfl | rfl <;> exact ⟨⟨by decide, by decide⟩, by decide, by decide⟩
theorem cts_ok : cts.all (okTx 1) = true := by decide
/-- a row of counts, as it lies -/
def cRow (g : Nat) : Value × List Tx := (.slice (some ⟨g, 0, none⟩) 2 2, cts)
theorem rowsAt_lit {r : Nat} {l : List (Value × List Tx)} {T : TypeId} (hr : w.heap[r]? = some (.cells (l.flatMap encR).toArray T (0, 0))) (he : ∀ p ∈ l, RdT encTxD w 4 p.1 p.2) : RowsAt w (.slice (some ⟨r, 0, none⟩) l.length l.length) l := ⟨bn_lit (fun _ => rfl) hr, he⟩
theorem thsAt_lit {t : Nat} {ts : Ths} {T : TypeId} (ht : w.heap[t]? = some (.cells (ts.flatMap encR2).toArray T (0, 0))) (he : ∀ p ∈ ts, RowsAt w p.1 p.2) (hn : ∀ p ∈ ts, txTotal p.2 ≤ 262144) : ThsAt w (.slice (some ⟨t, 0, none⟩) ts.length ts.length) ts := ⟨bn_lit (fun _ => rfl) ht, he, hn⟩

theorem cts_ths {ts : Ths} (h : ∀ t ∈ ts, ∀ p ∈ t.2, p.2 = cts) : (∀ t ∈ ts, okRows 1 t.2 = true) ∧ (∀ t ∈ ts, ∀ l ∈ rowsOf t, ∀ o ∈ l, TxWf o) := by
  refine ⟨fun t ht => ?_, fun t ht l hl => ?_⟩
  · unfold okRows
    rw [List.all_eq_true]
    intro p hp
    rw [h t ht p hp]
    exact cts_ok
  · obtain ⟨p, hp, rfl⟩ := List.mem_map.1 hl
    rw [h t ht p hp]
    exact cts_wf
theorem progs_eq (ts : Ths) : progs ts = ((ts.map rowsOf).map progLen).sum := by unfold progs; rw [List.map_map]; rfl
theorem three_new (w : World) (a b c : Obj) : (((w.alloc a).alloc b).alloc c).heap[w.heap.size]? = some a ∧ (((w.alloc a).alloc b).alloc c).heap[w.heap.size + 1]? = some b ∧ (((w.alloc a).alloc b).alloc c).heap[w.heap.size + 1 + 1]? = some c ∧
    Below w.heap.size w (((w.alloc a).alloc b).alloc c) := by
  refine ⟨block_alloc (block_alloc (block_new w a)), block_alloc (block_new2 w a b), ?_, (((Below.refl w.heap.size w).alloc (Nat.le_refl _) _).alloc (by simp) _).alloc (by simp; omega) _⟩
  have := block_new2 (w.alloc a) b c
  rw [World.size_alloc] at this
  exact this

def livesTs (r g : Nat) : Ths := [(.slice (some ⟨r, 0, none⟩) 1 1, [cRow g]), (.slice (some ⟨r, 0, none⟩) 1 1, [cRow g])]
set_option maxRecDepth 100000 in
set_option maxHeartbeats 2000000 in
theorem lives25 (w : World) : Calls Tryz.prog 13 #[] w fun e w' => e = .returned (.bool true) ∧ Below w.heap.size w w' := by
  go_enter Tryz.func13, Tryz.ntmps13
  go_wp2_with fail
  refine (counts_any w).mono ?_
  rintro e w1 ⟨rfl, hc1, hb1⟩
  have HC1 := hidI hc1
  have HB1 := hidI hb1
  clear hc1 hb1
  obtain ⟨g, hg⟩ : ∃ g, g = w.heap.size := ⟨_, rfl⟩
  rw [← hg] at HC1 ⊢
  clear hg
  go_wp2_with fail
  obtain ⟨hR, hT, hO, hB⟩ := three_new w1 (.cells #[.slice (some ⟨g, 0, none⟩) 2 2] 79) (.cells #[.slice (some ⟨w1.heap.size, 0, none⟩) 1 1, .slice (some ⟨w1.heap.size, 0, none⟩) 1 1] 62) (.cells #[.int .i64 1, .int .i64 0] 3)
  obtain ⟨w4, hw4⟩ : ∃ x, x = (((w1.alloc (.cells #[.slice (some ⟨g, 0, none⟩) 2 2] 79)).alloc (.cells #[.slice (some ⟨w1.heap.size, 0, none⟩) 1 1, .slice (some ⟨w1.heap.size, 0, none⟩) 1 1] 62)).alloc (.cells #[.int .i64 1, .int .i64 0] 3)) := ⟨_, rfl⟩
  rw [← hw4] at hR hT hO hB ⊢
  have hG := blk hB HC1.out
  have hrow : RowsAt w4 (.slice (some ⟨w1.heap.size, 0, none⟩) 1 1) [cRow g] := rowsAt_lit (l := [cRow g]) hR (fun p hp => by
    rw [List.mem_singleton.1 hp]
    exact bn_lit encTxD_len hG)
  have hths : ThsAt w4 (.slice (some ⟨w1.heap.size + 1, 0, none⟩) 2 2) (livesTs w1.heap.size g) :=
    thsAt_lit (ts := (livesTs w1.heap.size g)) hT (fun p hp => by
      rcases List.mem_cons.1 hp with rfl | hp
      · exact hrow
      · rw [List.mem_singleton.1 hp]; exact hrow) (fun p hp => by
      rcases List.mem_cons.1 hp with rfl | hp
      · show 3 ≤ 262144; decide
      · rw [List.mem_singleton.1 hp]; show 3 ≤ 262144; decide)
  have hcts := cts_ths (ts := (livesTs w1.heap.size g)) (fun t ht p hp => by
    rcases List.mem_cons.1 ht with rfl | ht
    · rw [List.mem_singleton.1 hp]; rfl
    · rw [List.mem_singleton.1 ht] at hp; rw [List.mem_singleton.1 hp]; rfl)
  have hrs : List.map rowsOf (livesTs w1.heap.size g) = [[cts], [cts]] := rfl
  have hord : RdT encI w4 1 (.slice (some ⟨w1.heap.size + 1 + 1, 0, none⟩) ([1, 0] : List Int).length ([1, 0] : List Int).length) [1, 0] := bn_lit (l := [1, 0]) encI_len hO
  have HB4 := hidI (HB1.out.trans (hB.mono HB1.out.size))
  refine (told_any (out := [([1], 1), ([0], 1)]) (ts := livesTs w1.heap.size g) hths (by decide) (by decide) (show 2 ≤ 4 by decide) (by rw [progs_eq, hrs]; decide) hcts.1 hcts.2 hord (by decide) (by rw [toldM_eq, hrs]; exact seen10)).mono ?_
  intro e w2 hpost
  obtain ⟨ga, a0, c0, a1, c1, rfl, i0, i1, i2, i3, hd0, hd1, hga, hb2⟩ := told2 hpost
  have HB2 := hidI (HB4.out.trans (hb2.mono HB4.out.size))
  have HD0 := hidI hd0
  have HD1 := hidI hd1
  have I2 := hidI i2
  clear hpost hR hT hO hB hw4 hG hrow hths hcts hrs hord hb2 hd0 hd1
  have i0a := fun o => cell_allocU i0 o
  have i1a := fun o => cell_allocU i1 o
  go_wp2_with fail
  have hbt : Below w2.heap.size w2 (w2.alloc (.cells #[.int .i64 1] 2)) := (Below.refl _ _).alloc (Nat.le_refl _) _
  have hlit : RdT encI (w2.alloc (.cells #[.int .i64 1] 2)) 1 (.slice (some ⟨w2.heap.size, 0, none⟩) [(1 : Int)].length [(1 : Int)].length) [1] := bn_lit (l := [1]) (T := 2) encI_len (block_new w2 _)
  refine (sameWides_true (l := [1]) (Rd.below HD0.out hbt) hlit (by simp)).mono ?_
  rintro e w3 ⟨rfl, hb3⟩
  have hb23 := bnext hbt hb3
  have HB3 := hidI (HB2.out.trans (hb23.mono HB2.out.size))
  have HD3 := hidI (Rd.below HD1.out hb23)
  have i2 : w3.cell? ⟨ga, 2, none⟩ = some (.slice a1 1 c1) := (hb23.cell hga).trans I2.out
  have i2a := fun o => cell_allocU i2 o
  clear hb23 hb3 hlit hbt i0 i1 i3 i0a i1a
  go_wp2_with fail
  have hbt : Below w3.heap.size w3 (w3.alloc (.cells #[.int .i64 0] 2)) := (Below.refl _ _).alloc (Nat.le_refl _) _
  have hlit : RdT encI (w3.alloc (.cells #[.int .i64 0] 2)) 1 (.slice (some ⟨w3.heap.size, 0, none⟩) [(0 : Int)].length [(0 : Int)].length) [0] := bn_lit (l := [0]) (T := 2) encI_len (block_new w3 _)
  refine (sameWides_true (l := [0]) (Rd.below HD3.out hbt) hlit (by simp)).mono ?_
  rintro e w5 ⟨rfl, hb5⟩
  have HB5 := hidI (HB3.out.trans ((bnext hbt hb5).mono HB3.out.size))
  clear hbt hb5 hlit i2 i2a
  go_wp2_with fail
  go_ret
  exact ⟨rfl, HB5.out⟩
end

section
variable {w w' : World}
def oneTs (r g h : Nat) : Ths := [(.slice (some ⟨r, 0, none⟩) 2 2, [cRow g, cRow h])]
def firstTs (r g : Nat) : Ths := [(.slice (some ⟨r, 0, none⟩) 1 2, [cRow g]), (.slice (some ⟨r, 0, none⟩) 1 2, [cRow g])]

theorem first_told {r g h bt bo : Nat} {T1 T2 T3 T4 : TypeId} (hR : w.heap[r]? = some (.cells #[.slice (some ⟨g, 0, none⟩) 2 2, .slice (some ⟨h, 0, none⟩) 2 2] T1 (0, 0))) (hG : w.heap[g]? = some (.cells (cts.flatMap encTxD).toArray T2 (0, 0)))
    (hT : w.heap[bt]? = some (.cells #[.slice (some ⟨r, 0, none⟩) 1 2, .slice (some ⟨r, 0, none⟩) 1 2] T3 (0, 0))) (hO : w.heap[bo]? = some (.cells #[.int .i64 0, .int .i64 1] T4 (0, 0))) :
    Calls Tryz.prog 31 #[.int .i64 1, .slice (some ⟨bt, 0, none⟩) 2 2, .slice (some ⟨bo, 0, none⟩) 2 2] w (ToldPost [([0], 1), ([1], 1)] w) := by
  have hrow : RowsAt w (.slice (some ⟨r, 0, none⟩) 1 2) [cRow g] := by
    refine ⟨⟨rfl, some ⟨r, 0, none⟩, 2, rfl, show 1 ≤ 2 by decide, fun _ => ⟨r, 0, rfl, lt_of_block hR, fun j u hj => ?_⟩⟩, fun p hp => ?_⟩
    · rw [Nat.zero_add]
      match j, hj with
      | 0, hj => exact cell_of_block hR (by simpa [encR, cRow] using hj)
    · rw [List.mem_singleton.1 hp]; exact bn_lit encTxD_len hG
  have hths : ThsAt w (.slice (some ⟨bt, 0, none⟩) 2 2) (firstTs r g) :=
    thsAt_lit (ts := firstTs r g) hT (fun p hp => by
      rcases List.mem_cons.1 hp with rfl | hp
      · exact hrow
      · rw [List.mem_singleton.1 hp]; exact hrow) (fun p hp => by
      rcases List.mem_cons.1 hp with rfl | hp
      · show 3 ≤ 262144; decide
      · rw [List.mem_singleton.1 hp]; show 3 ≤ 262144; decide)
  have hcts := cts_ths (ts := firstTs r g) (fun t ht p hp => by
    rcases List.mem_cons.1 ht with rfl | ht
    · rw [List.mem_singleton.1 hp]; rfl
    · rw [List.mem_singleton.1 ht] at hp; rw [List.mem_singleton.1 hp]; rfl)
  have hrs : List.map rowsOf (firstTs r g) = [[cts], [cts]] := rfl
  have hord : RdT encI w 1 (.slice (some ⟨bo, 0, none⟩) ([0, 1] : List Int).length ([0, 1] : List Int).length) [0, 1] := bn_lit (l := [0, 1]) encI_len hO
  exact told_any (out := [([0], 1), ([1], 1)]) (ts := firstTs r g) hths (by decide) (by decide) (show 2 ≤ 4 by decide) (by rw [progs_eq, hrs]; decide) hcts.1 hcts.2 hord (by decide) (by rw [toldM_eq, hrs]; exact seen01)
theorem none_told {bt bo : Nat} {T3 T4 : TypeId} (hT : w.heap[bt]? = some (.cells #[.slice none 0 0] T3 (0, 0))) (hO : w.heap[bo]? = some (.cells #[.int .i64 0] T4 (0, 0))) :
    Calls Tryz.prog 31 #[.int .i64 1, .slice (some ⟨bt, 0, none⟩) 1 1, .slice (some ⟨bo, 0, none⟩) 1 1] w (ToldPost [([], 1)] w) := by
  have hths : ThsAt w (.slice (some ⟨bt, 0, none⟩) 1 1) [(.slice none 0 0, [])] :=
    thsAt_lit (ts := [(.slice none 0 0, [])]) hT (fun p hp => by
      rw [List.mem_singleton.1 hp]; exact ⟨Rd.nil _ _, fun p hp => by cases hp⟩) (fun p hp => by
      rw [List.mem_singleton.1 hp]; show 0 ≤ 262144; decide)
  have hcts := cts_ths (ts := [(.slice none 0 0, [])]) (fun t ht p hp => by
    rw [List.mem_singleton.1 ht] at hp; cases hp)
  have hrs : List.map rowsOf ([(.slice none 0 0, [])] : Ths) = [[]] := rfl
  have hord : RdT encI w 1 (.slice (some ⟨bo, 0, none⟩) ([0] : List Int).length ([0] : List Int).length) [0] := bn_lit (l := [0]) encI_len hO
  exact told_any (out := [([], 1)]) (ts := [(.slice none 0 0, [])]) hths (by decide) (by decide) (show 1 ≤ 4 by decide) (by rw [progs_eq, hrs]; decide) hcts.1 hcts.2 hord (by decide) (by rw [toldM_eq, hrs]; exact seenNone)

theorem image_arg {e : Ending} {words : Int} {ts : Ths} (h : ImagePost words ts w e w') (h0 : 0 ≤ words) (h1 : words ≤ 65536) (hn : ts.length ≤ 4) (hp : progs ts ≤ 262144) (ho : ∃ t ∈ ts, okRows words t.2 = false) :
    e = .returned (.tuple #[.agg #[.slice none 0 0, .int .i64 0, .slice none 0 0], .int .i64 1]) ∧ Below w.heap.size w w' := by
  obtain ⟨hb, hr⟩ := h
  refine ⟨?_, hb⟩
  rcases hr with ⟨en, rfl, ⟨rfl, -⟩ | ⟨-, q⟩⟩ | ⟨co, cc, cs, he, hown, hin, hare, hsum, -, -, q⟩
  · rfl
  · exact absurd q (few_room hn (mkErr_few h0 h1 hn) hp)
  · obtain ⟨t, ht, q'⟩ := ho
    rw [q t ht] at q'
    cases q'
theorem image_limit {e : Ending} {words : Int} {ts : Ths} (h : ImagePost words ts w e w') (h0 : 0 ≤ words) (hn : 4 < ts.length) (ho : ∀ t ∈ ts, okRows words t.2 = true) :
    e = .returned (.tuple #[.agg #[.slice none 0 0, .int .i64 0, .slice none 0 0], .int .i64 3]) ∧ Below w.heap.size w w' := by
  obtain ⟨hb, hr⟩ := h
  refine ⟨?_, hb⟩
  rcases hr with ⟨en, rfl, ⟨-, q | ⟨t, ht, q⟩⟩ | ⟨rfl, -⟩⟩ | ⟨co, cc, cs, he, hown, hin, hare, hsum, -, q, -⟩
  · omega
  · rw [ho t ht] at q; cases q
  · rfl
  · omega
/-- one thing alone that may not be -/
theorem bad_image {o : Tx} {bx br bt : Nat} {T1 T2 T3 : TypeId} (hX : w.heap[bx]? = some (.cells (encTxD o).toArray T1 (0, 0))) (hR : w.heap[br]? = some (.cells #[.slice (some ⟨bx, 0, none⟩) 1 1] T2 (0, 0))) (hT : w.heap[bt]? = some (.cells #[.slice (some ⟨br, 0, none⟩) 1 1] T3 (0, 0))) (ho : okTx 1 o = false) (hp : progLen [[o]] ≤ 262144) :
    Calls Tryz.prog 11 #[.int .i64 1, .slice (some ⟨bt, 0, none⟩) 1 1] w fun e w' => e = .returned (.tuple #[.agg #[.slice none 0 0, .int .i64 0, .slice none 0 0], .int .i64 1]) ∧ Below w.heap.size w w' := by
  have hrow : RowsAt w (.slice (some ⟨br, 0, none⟩) 1 1) [(.slice (some ⟨bx, 0, none⟩) 1 1, [o])] := rowsAt_lit (l := [(.slice (some ⟨bx, 0, none⟩) 1 1, [o])]) hR (fun p hp => by
    rw [List.mem_singleton.1 hp]; exact bn_lit (l := [o]) (T := T1) encTxD_len (by simpa using hX))
  have hths : ThsAt w (.slice (some ⟨bt, 0, none⟩) 1 1) [(.slice (some ⟨br, 0, none⟩) 1 1, [(.slice (some ⟨bx, 0, none⟩) 1 1, [o])])] :=
    thsAt_lit (ts := [(.slice (some ⟨br, 0, none⟩) 1 1, [(.slice (some ⟨bx, 0, none⟩) 1 1, [o])])]) hT (fun p hp => by
      rw [List.mem_singleton.1 hp]; exact hrow) (fun p hp => by
      rw [List.mem_singleton.1 hp]; show 2 ≤ 262144; decide)
  refine (image_any (ts := [(.slice (some ⟨br, 0, none⟩) 1 1, [(.slice (some ⟨bx, 0, none⟩) 1 1, [o])])]) hths (show 1 ≤ 9000000000000 by decide) 1).mono fun e w' h => image_arg h (by decide) (by decide) (show 1 ≤ 4 by decide) ?_ ⟨_, List.mem_singleton.2 rfl, ?_⟩
  · rw [progs_eq]
    show progLen [[o]] + 0 ≤ 262144
    omega
  · show okRows 1 [(_, [o])] = false
    simp [okRows, ho]
theorem five_image {bt : Nat} {T : TypeId} (hT : w.heap[bt]? = some (.cells #[.slice none 0 0, .slice none 0 0, .slice none 0 0, .slice none 0 0, .slice none 0 0] T (0, 0))) :
    Calls Tryz.prog 11 #[.int .i64 1, .slice (some ⟨bt, 0, none⟩) 5 5] w fun e w' => e = .returned (.tuple #[.agg #[.slice none 0 0, .int .i64 0, .slice none 0 0], .int .i64 3]) ∧ Below w.heap.size w w' := by
  have hall : ∀ p ∈ (List.replicate 5 (.slice none 0 0, []) : Ths), p = (.slice none 0 0, []) := fun p hp => List.eq_of_mem_replicate hp
  have hths : ThsAt w (.slice (some ⟨bt, 0, none⟩) 5 5) (List.replicate 5 (.slice none 0 0, [])) :=
    thsAt_lit (ts := List.replicate 5 (.slice none 0 0, [])) hT (fun p hp => by
      rw [hall p hp]; exact ⟨Rd.nil _ _, fun p hp => by cases hp⟩) (fun p hp => by
      rw [hall p hp]; show 0 ≤ 262144; decide)
  refine (image_any (ts := List.replicate 5 (.slice none 0 0, [])) hths (show 5 ≤ 9000000000000 by decide) 1).mono fun e w' h => image_limit h (by decide) (show 4 < 5 by decide) (fun t ht => ?_)
  rw [hall t ht]
  rfl
theorem reg_world (w : World) (a b : Obj) : ((w.alloc a).alloc b).drew.heap[w.heap.size]? = some a ∧ ((w.alloc a).alloc b).drew.heap[w.heap.size + 1]? = some b ∧ Below w.heap.size w ((w.alloc a).alloc b).drew :=
  ⟨block_alloc (block_new w a), block_new2 w a b, (((Below.refl w.heap.size w).alloc (Nat.le_refl _) _).alloc (by simp) _).drew⟩
theorem two_new (w : World) (a b : Obj) : ((w.alloc a).alloc b).heap[w.heap.size]? = some a ∧ ((w.alloc a).alloc b).heap[w.heap.size + 1]? = some b ∧ Below w.heap.size w ((w.alloc a).alloc b) :=
  ⟨block_alloc (block_new w a), block_new2 w a b, ((Below.refl w.heap.size w).alloc (Nat.le_refl _) _).alloc (by simp) _⟩
theorem four_new (w : World) (i a b c : Obj) : ((((w.alloc i).alloc a).alloc b).alloc c).heap[w.heap.size + 1]? = some a ∧ ((((w.alloc i).alloc a).alloc b).alloc c).heap[w.heap.size + 1 + 1]? = some b ∧ ((((w.alloc i).alloc a).alloc b).alloc c).heap[w.heap.size + 1 + 1 + 1]? = some c ∧
    Below w.heap.size w ((((w.alloc i).alloc a).alloc b).alloc c) := by
  obtain ⟨h1, h2, h3, h4⟩ := three_new (w.alloc i) a b c
  rw [World.size_alloc] at h1 h2 h3
  exact ⟨h1, h2, h3, bnext ((Below.refl w.heap.size w).alloc (Nat.le_refl _) i) h4⟩
theorem thInfo25 : (Tryz.prog.info? 62).map (fun i => (i.zero, i.size, i.bytes)) = some (some (.slice none 0 0), 1, 24) := by kernel_rfl
/-- what stands of the first two runs -/
def FPost (w : World) (ga : Nat) (a0 : Option Addr) (c0 : Nat) (v : Value) (w' : World) : Prop :=
  (∃ gb b0 d0 b1 d1, v = .slice (some ⟨gb, 0, none⟩) 2 2 ∧ w'.cell? ⟨gb, 0, none⟩ = some (.slice b0 1 d0) ∧ w'.cell? ⟨gb, 2, none⟩ = some (.slice b1 1 d1) ∧ RdT encI w' 1 (.slice b0 1 d0) [0] ∧ RdT encI w' 1 (.slice b1 1 d1) [1] ∧ gb < w'.heap.size) ∧
  w'.cell? ⟨ga, 0, none⟩ = some (.slice a0 2 c0) ∧ w'.cell? ⟨ga, 1, none⟩ = some (.int .u8 1) ∧ RdT encI w' 1 (.slice a0 2 c0) [0, 1] ∧ ga < w'.heap.size ∧ Below w.heap.size w w'
theorem FPost.below {w1 w2 : World} {ga : Nat} {a0 : Option Addr} {c0 : Nat} {v : Value} (h : FPost w ga a0 c0 v w1) (hb : Below w1.heap.size w1 w2) : FPost w ga a0 c0 v w2 := by
  obtain ⟨⟨gb, b0, d0, b1, d1, rfl, h1, h2, h3, h4, h5⟩, h6, h7, h8, h9, h10⟩ := h
  have := hb.size
  exact ⟨⟨gb, b0, d0, b1, d1, rfl, (hb.cell h5).trans h1, (hb.cell h5).trans h2, Rd.below h3 hb, Rd.below h4 hb, by omega⟩, (hb.cell h9).trans h6, (hb.cell h9).trans h7, Rd.below h8 hb, by omega, bnext h10 hb⟩
def NPost (w : World) (ga : Nat) (a0 : Option Addr) (c0 : Nat) (v v' : Value) (w' : World) : Prop :=
  FPost w ga a0 c0 v w' ∧ ∃ gc e0 f0, v' = .slice (some ⟨gc, 0, none⟩) 1 1 ∧ w'.cell? ⟨gc, 0, none⟩ = some (.slice e0 0 f0) ∧ w'.cell? ⟨gc, 1, none⟩ = some (.int .u8 1) ∧ gc < w'.heap.size
theorem NPost.below {w1 w2 : World} {ga : Nat} {a0 : Option Addr} {c0 : Nat} {v v' : Value} (h : NPost w ga a0 c0 v v' w1) (hb : Below w1.heap.size w1 w2) : NPost w ga a0 c0 v v' w2 := by
  obtain ⟨h, gc, e0, f0, rfl, h1, h2, h3⟩ := h
  have := hb.size
  exact ⟨h.below hb, gc, e0, f0, rfl, (hb.cell h3).trans h1, (hb.cell h3).trans h2, by omega⟩

set_option maxRecDepth 100000 in
set_option maxHeartbeats 16000000 in
theorem bnames_any (w : World) : Calls Tryz.prog 7 #[] w fun e w' => e = .returned (.bool true) ∧ Below w.heap.size w w' := by
  go_enter Tryz.func7, Tryz.ntmps7
  go_wp2_with fail
  refine (counts_any w).mono ?_
  rintro e w1 ⟨rfl, hc1, hb1⟩
  have HC1 := hidI hc1
  have HB1 := hidI hb1
  clear hc1 hb1
  obtain ⟨g, hg⟩ : ∃ g, g = w.heap.size := ⟨_, rfl⟩
  rw [← hg] at HC1 ⊢
  clear hg
  go_wp2_with fail
  refine (counts_any w1).mono ?_
  rintro e w2 ⟨rfl, hc2, hb2⟩
  have HC1' := hidI (blk hb2 HC1.out)
  have HC2 := hidI hc2
  have HB2 := hidI (bnext HB1.out hb2)
  clear hc2 hb2 HC1 HB1
  obtain ⟨h, hh⟩ : ∃ h, h = w1.heap.size := ⟨_, rfl⟩
  rw [← hh] at HC2 ⊢
  clear hh
  go_wp2_with fail
  obtain ⟨hR, hT, hO, hB⟩ := three_new w2 (.cells #[.slice (some ⟨g, 0, none⟩) 2 2, .slice (some ⟨h, 0, none⟩) 2 2] 79) (.cells #[.slice (some ⟨w2.heap.size, 0, none⟩) 2 2] 62) (.cells #[.int .i64 0] 3)
  obtain ⟨w4, hw4⟩ : ∃ x, x = (((w2.alloc (.cells #[.slice (some ⟨g, 0, none⟩) 2 2, .slice (some ⟨h, 0, none⟩) 2 2] 79)).alloc (.cells #[.slice (some ⟨w2.heap.size, 0, none⟩) 2 2] 62)).alloc (.cells #[.int .i64 0] 3)) := ⟨_, rfl⟩
  rw [← hw4] at hR hT hO hB ⊢
  have hG := blk hB HC1'.out
  have hH := blk hB HC2.out
  have HB4 := hidI (bnext HB2.out hB)
  have hrow : RowsAt w4 (.slice (some ⟨w2.heap.size, 0, none⟩) 2 2) [cRow g, cRow h] := rowsAt_lit (l := [cRow g, cRow h]) hR (fun p hp => by
    rcases List.mem_cons.1 hp with rfl | hp
    · exact bn_lit encTxD_len hG
    · rw [List.mem_singleton.1 hp]; exact bn_lit encTxD_len hH)
  have hths : ThsAt w4 (.slice (some ⟨w2.heap.size + 1, 0, none⟩) 1 1) (oneTs w2.heap.size g h) :=
    thsAt_lit (ts := oneTs w2.heap.size g h) hT (fun p hp => by
      rw [List.mem_singleton.1 hp]; exact hrow) (fun p hp => by
      rw [List.mem_singleton.1 hp]; show 6 ≤ 262144; decide)
  have hcts := cts_ths (ts := oneTs w2.heap.size g h) (fun t ht p hp => by
    rw [List.mem_singleton.1 ht] at hp
    rcases List.mem_cons.1 hp with rfl | hp
    · rfl
    · rw [List.mem_singleton.1 hp]; rfl)
  have hrs : List.map rowsOf (oneTs w2.heap.size g h) = [[cts, cts]] := rfl
  have hord : RdT encI w4 1 (.slice (some ⟨w2.heap.size + 1 + 1, 0, none⟩) ([0] : List Int).length ([0] : List Int).length) [0] := bn_lit (l := [0]) encI_len hO
  obtain ⟨r, hr⟩ : ∃ r, r = w2.heap.size := ⟨_, rfl⟩
  have HSR := hidI hr
  rw [← hr] at hR hT hO hrow hths hcts hrs hord ⊢
  refine (told_any (out := [([0, 1], 1)]) (ts := oneTs r g h) hths (by decide) (by decide) (show 1 ≤ 4 by decide) (by rw [progs_eq, hrs]; decide) hcts.1 hcts.2 hord (by decide) (by rw [toldM_eq, hrs]; exact seenOne)).mono ?_
  intro e w5 hpost
  obtain ⟨ga, a0, c0, rfl, i0, i1, hd0, hga, hb5⟩ := told1 hpost
  have HB5 := hidI (bnext HB4.out hb5)
  have HR5 := hidI (blk hb5 hR)
  have HG5 := hidI (blk hb5 hG)
  have hfp : ∀ (W : World), Below w5.heap.size w5 W → ∀ e w', ToldPost [([0], 1), ([1], 1)] W e w' → ∃ v, e = .returned v ∧ FPost w ga a0 c0 v w' := by
    intro W hW e w' hp
    obtain ⟨gb, b0, d0, b1, d1, rfl, j0, j1, j2, j3, jd0, jd1, jg, jb⟩ := told2 hp
    have jB := bnext hW jb
    have := jB.size
    exact ⟨_, rfl, ⟨gb, b0, d0, b1, d1, rfl, j0, j2, jd0, jd1, jg⟩, (jB.cell hga).trans i0, (jB.cell hga).trans i1, Rd.below hd0 jB, by omega, bnext HB5.out jB⟩
  have HF1 := hidI (show Calls Tryz.prog 31 #[.int .i64 1, .slice (some ⟨w5.heap.size, 0, none⟩) 2 2, .slice (some ⟨w5.heap.size + 1, 0, none⟩) 2 2] ((w5.alloc (.cells #[.slice (some ⟨r, 0, none⟩) 1 2, .slice (some ⟨r, 0, none⟩) 1 2] 62)).alloc (.cells #[.int .i64 0, .int .i64 1] 3)).drew fun e w' => ∃ v, e = .returned v ∧ FPost w ga a0 c0 v w' from by
    obtain ⟨g1, g2, g3⟩ := reg_world w5 (.cells #[.slice (some ⟨r, 0, none⟩) 1 2, .slice (some ⟨r, 0, none⟩) 1 2] 62) (.cells #[.int .i64 0, .int .i64 1] 3)
    exact (first_told (blk g3 HR5.out) (blk g3 HG5.out) g1 g2).mono (hfp _ g3))
  have HF2 := hidI (show Calls Tryz.prog 31 #[.int .i64 1, .slice (some ⟨w5.heap.size + 1, 0, none⟩) 2 2, .slice (some ⟨w5.heap.size, 0, none⟩) 2 2] ((w5.alloc (.cells #[.int .i64 0, .int .i64 1] 3)).alloc (.cells #[.slice (some ⟨r, 0, none⟩) 1 2, .slice (some ⟨r, 0, none⟩) 1 2] 62)).drew fun e w' => ∃ v, e = .returned v ∧ FPost w ga a0 c0 v w' from by
    obtain ⟨g1, g2, g3⟩ := reg_world w5 (.cells #[.int .i64 0, .int .i64 1] 3) (.cells #[.slice (some ⟨r, 0, none⟩) 1 2, .slice (some ⟨r, 0, none⟩) 1 2] 62)
    exact (first_told (blk g3 HR5.out) (blk g3 HG5.out) g2 g1).mono (hfp _ g3))
  clear hpost hR hT hO hB hw4 hG hH hrow hths hcts hrs hord hb5 hd0 hr HC1' HC2 HB2 HB4 i0 i1 hga hfp HR5 HG5 HB5
  go_upto_region 3 with fail
  go_cut [3] from 23 to 29 (fun v wx => Hid (FPost w ga a0 c0 v wx))
  case first =>
    go_region_with (go_at_call 31; (first | with_reducible (refine HF1.out.mono ?_) | with_reducible (refine HF2.out.mono ?_)); rintro e wx ⟨v, rfl, hF⟩; have HFX := hidI hF; clear hF)
    all_goals (go_wp2_with fail; go_meet; exact HFX)
  case rest =>
    have HF := hidI hcut.out
    clear hcut
    go_wp2_with fail
    obtain ⟨g1, g2, g3⟩ := two_new wc (.cells #[.slice none 0 0] 62) (.cells #[.int .i64 0] 3)
    refine (none_told g1 g2).mono ?_
    intro e w7 hp
    obtain ⟨gc, e0, f0, rfl, n0, n1, -, ng, nb⟩ := told1 hp
    have HN := hidI (show NPost w ga a0 c0 u3 (.slice (some ⟨gc, 0, none⟩) 1 1) w7 from ⟨HF.out.below (bnext g3 nb), gc, e0, f0, rfl, n0, n1, ng⟩)
    clear hp n0 n1 ng nb g1 g2 g3 HF
    go_wp2_with fail
    obtain ⟨g1, g2, g3, g4⟩ := three_new w7 (.cells #[.int .i64 0, .int .u8 3, .int .i64 0, .int .i64 0] 96) (.cells #[.slice (some ⟨w7.heap.size, 0, none⟩) 1 1] 79) (.cells #[.slice (some ⟨w7.heap.size + 1, 0, none⟩) 1 1] 62)
    refine (bad_image (o := ⟨0, 3, 0, 0⟩) g1 g2 g3 (by decide) (by decide)).mono ?_
    rintro e w8 ⟨rfl, hb⟩
    have HN := hidI (HN.out.below (bnext g4 hb))
    clear g1 g2 g3 g4 hb
    go_wp2_with fail
    obtain ⟨g1, g2, g3, g4⟩ := four_new w8 (.cells #[.slice none 0 0, .int .i64 0, .slice none 0 0] 30) (.cells #[.int .i64 0, .int .u8 2, .int .i64 2, .int .i64 0] 96) (.cells #[.slice (some ⟨w8.heap.size + 1, 0, none⟩) 1 1] 79) (.cells #[.slice (some ⟨w8.heap.size + 1 + 1, 0, none⟩) 1 1] 62)
    refine (bad_image (o := ⟨0, 2, 2, 0⟩) g1 g2 g3 (by decide) (by decide)).mono ?_
    rintro e w9 ⟨rfl, hb⟩
    have HN := hidI (HN.out.below (bnext g4 hb))
    clear g1 g2 g3 g4 hb
    go_wp2_with fail
    obtain ⟨g1, g2, g3, g4⟩ := four_new w9 (.cells #[.slice none 0 0, .int .i64 0, .slice none 0 0] 30) (.cells #[.int .i64 0, .int .u8 4, .int .i64 1, .int .i64 0] 96) (.cells #[.slice (some ⟨w9.heap.size + 1, 0, none⟩) 1 1] 79) (.cells #[.slice (some ⟨w9.heap.size + 1 + 1, 0, none⟩) 1 1] 62)
    refine (bad_image (o := ⟨0, 4, 1, 0⟩) g1 g2 g3 (by decide) (by decide)).mono ?_
    rintro e w10 ⟨rfl, hb⟩
    have HN := hidI (HN.out.below (bnext g4 hb))
    clear g1 g2 g3 g4 hb
    obtain ⟨i0, hi, hz0, hz1, hz2⟩ := info_parts thInfo25
    go_wp2_with (at_make; refine wpList_make_s _ rfl _ _ 22 rfl 62 i0 _ 1 [.slice none 0 0] Tryz.underlying22 hi hz0 hz1 rfl rfl (by decide) _ _ _ _ 5 5 rfl rfl rfl rfl (Nat.le_refl _) (by rw [hz2]; decide) (by decide) ?_)
    intro w11 hg1 hs1 hb1
    have hb1 : Below (w10.alloc (.cells #[.slice none 0 0, .int .i64 0, .slice none 0 0] 30)).heap.size (w10.alloc (.cells #[.slice none 0 0, .int .i64 0, .slice none 0 0] 30)) w11 := by first | exact hb1 | (rw [World.size_alloc]; exact hb1)
    have HG11 := hidI (show w11.heap[w10.heap.size + 1]? = some (.cells #[.slice none 0 0, .slice none 0 0, .slice none 0 0, .slice none 0 0, .slice none 0 0] 62 (0, 0)) from hg1)
    have HN := hidI (HN.out.below (bnext ((Below.refl _ _).alloc (Nat.le_refl _) _) hb1))
    clear hg1 hs1 hb1 hi hz0 hz1 hz2
    go_wp2_with fail
    refine (five_image HG11.out).mono ?_
    rintro e w12 ⟨rfl, hb⟩
    have HN := hidI (HN.out.below hb)
    clear hb HG11
    obtain ⟨⟨⟨gb, b0, d0, b1, d1, rfl, j0, j2, jd0, jd1, jg⟩, k0, k1, kd, kg, kb⟩, gc', e0', f0', hgc, n0, n1, ng⟩ := HN.out
    cases hgc
    have K0 := hidI k0
    have K1 := hidI k1
    have KD := hidI kd
    have J0 := hidI j0
    have J2 := hidI j2
    have JD0 := hidI jd0
    have JD1 := hidI jd1
    have JG := hidI jg
    have N0 := hidI n0
    have N1 := hidI n1
    have NG := hidI ng
    have KB := hidI kb
    have k0a := fun o => cell_allocU k0 o
    have k1a := fun o => cell_allocU k1 o
    clear j0 j2 jd0 jd1 jg kd kg kb n0 n1 ng HN
    go_wp2_with fail
    have hbt : Below w12.heap.size w12 ((w12.alloc (.cells #[.slice none 0 0, .int .i64 0, .slice none 0 0] 30)).alloc (.cells #[.int .i64 0, .int .i64 1] 2)) := ((Below.refl _ _).alloc (Nat.le_refl _) _).alloc (by simp) _
    have hlit := bn_lit (l := [0, 1]) (T := 2) encI_len (block_new2 w12 (.cells #[.slice none 0 0, .int .i64 0, .slice none 0 0] 30) (.cells #[.int .i64 0, .int .i64 1] 2))
    refine (sameWides_true (l := [0, 1]) (Rd.below KD.out hbt) hlit (by simp)).mono ?_
    rintro e w13 ⟨rfl, hb⟩
    have hb := bnext hbt hb
    have KB := hidI (bnext KB.out hb)
    have JD0 := hidI (Rd.below JD0.out hb)
    have JD1 := hidI (Rd.below JD1.out hb)
    have j0 : w13.cell? ⟨gb, 0, none⟩ = some (.slice b0 1 d0) := (hb.cell JG.out).trans J0.out
    have J2 := hidI (show w13.cell? ⟨gb, 2, none⟩ = some (.slice b1 1 d1) from (hb.cell JG.out).trans J2.out)
    have N0 := hidI (show w13.cell? ⟨gc, 0, none⟩ = some (.slice e0' 0 f0') from (hb.cell NG.out).trans N0.out)
    have N1 := hidI (show w13.cell? ⟨gc, 1, none⟩ = some (.int .u8 1) from (hb.cell NG.out).trans N1.out)
    have JG := hidI (show gb < w13.heap.size from by have := hb.size; have := JG.out; omega)
    have NG := hidI (show gc < w13.heap.size from by have := hb.size; have := NG.out; omega)
    have j0a := fun o => cell_allocU j0 o
    clear hb hlit hbt k0 k1 k0a k1a K0 K1 KD J0
    go_wp2_with fail
    have hbt : Below w13.heap.size w13 (w13.alloc (.cells #[.int .i64 0] 2)) := (Below.refl _ _).alloc (Nat.le_refl _) _
    have hlit := bn_lit (l := [0]) (T := 2) encI_len (block_new w13 (.cells #[.int .i64 0] 2))
    refine (sameWides_true (l := [0]) (Rd.below JD0.out hbt) hlit (by simp)).mono ?_
    rintro e w14 ⟨rfl, hb⟩
    have hb := bnext hbt hb
    have KB := hidI (bnext KB.out hb)
    have JD1 := hidI (Rd.below JD1.out hb)
    have j2 : w14.cell? ⟨gb, 2, none⟩ = some (.slice b1 1 d1) := (hb.cell JG.out).trans J2.out
    have N0 := hidI (show w14.cell? ⟨gc, 0, none⟩ = some (.slice e0' 0 f0') from (hb.cell NG.out).trans N0.out)
    have N1 := hidI (show w14.cell? ⟨gc, 1, none⟩ = some (.int .u8 1) from (hb.cell NG.out).trans N1.out)
    have NG := hidI (show gc < w14.heap.size from by have := hb.size; have := NG.out; omega)
    have j2a := fun o => cell_allocU j2 o
    clear hb hlit hbt j0 j0a J2 JD0
    go_wp2_with fail
    have hbt : Below w14.heap.size w14 (w14.alloc (.cells #[.int .i64 1] 2)) := (Below.refl _ _).alloc (Nat.le_refl _) _
    have hlit := bn_lit (l := [1]) (T := 2) encI_len (block_new w14 (.cells #[.int .i64 1] 2))
    refine (sameWides_true (l := [1]) (Rd.below JD1.out hbt) hlit (by simp)).mono ?_
    rintro e w15 ⟨rfl, hb⟩
    have hb := bnext hbt hb
    have KB := hidI (bnext KB.out hb)
    have n0 : w15.cell? ⟨gc, 0, none⟩ = some (.slice e0' 0 f0') := (hb.cell NG.out).trans N0.out
    have n1 : w15.cell? ⟨gc, 1, none⟩ = some (.int .u8 1) := (hb.cell NG.out).trans N1.out
    clear hb hlit hbt j2 j2a JD1 N0 N1 NG JG
    go_wp2_with fail
    refine (lives25 w15).mono ?_
    rintro e w16 ⟨rfl, hb⟩
    have KB := hidI (bnext KB.out hb)
    clear hb n0 n1
    go_wp2_with fail
    go_ret
    exact ⟨rfl, KB.out⟩
end

end Go.Proofs.YtopdcjimpdalpaaGreat

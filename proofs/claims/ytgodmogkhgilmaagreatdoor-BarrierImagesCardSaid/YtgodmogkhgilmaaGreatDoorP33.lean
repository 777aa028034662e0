/- Part of the proof: BnA, BnB, PlayS, PlayB, PlayC, PlayR -/
import Derived.Test.YtgodmogkhgilmaaGreatDoorP32
import Derived.OwnWalk
import Derived.Deep.RegionHeld3
namespace Go.Proofs.YtgodmogkhgilmaaGreatDoor
open Go.RowKit
set_option linter.unusedVariables false
set_option linter.unusedSimpArgs false
set_option maxHeartbeats 4000000
set_option maxRecDepth 100000
section
structure FT where
  reg : List Int
  at_ : Int
  wait : List (Int × Int)
  out : List Int
  fin : Int
def lkM : List (Int × Int) → Int → Int
  | [], _ => 0
  | c :: l, a => if c.1 = a then c.2 else lkM l a
def FT.r (f : FT) (i : Int) : Int := f.reg.getD i.toNat 0
def FT.goes (f : FT) (i v : Int) : FT := { f with reg := f.reg.set i.toNat v, at_ := f.at_ + 1 }
def fnd (f : FT) (M : List (Int × Int)) (a : Int) : Int := (findS f.wait a).getD (lkM M a)
def fstep (code : List OpD) (sz : Int) (M : List (Int × Int)) (f : FT) : Option (List (Int × Int) × FT) :=
  match code[f.at_.toNat]? with
  | none => none
  | some o =>
    if f.at_ < 0 ∨ f.reg.length ≠ 8 ∨ o.a < 0 ∨ 8 ≤ o.a ∨ o.b < 0 ∨ 8 ≤ o.b then none
    else if o.kind = 1 then some (M, f.goes o.a o.n)
    else if o.kind = 2 then some (M, f.goes o.a (f.r o.b))
    else if o.kind = 3 then (match calcS o.cal (f.r o.a) (f.r o.b) with
      | none => none
      | some v => some (M, f.goes o.a v))
    else if o.kind = 6 then some (M, { f with at_ := o.n })
    else if o.kind = 7 then some (M, { f with at_ := if f.r o.a = 0 then o.n else f.at_ + 1 })
    else if o.kind = 11 then some (M, { f with at_ := f.at_ + 1, out := f.out ++ [f.r o.a] })
    else if o.kind = 12 then some (M, { f with at_ := f.at_ + 1 })
    else if o.kind = 14 then some (M, { f with fin := 1 })
    else if o.kind = 4 ∨ o.kind = 15 then
      (if 0 ≤ w64 (f.r o.b + o.n) ∧ w64 (f.r o.b + o.n) < sz then some (M, f.goes o.a (fnd f M (w64 (f.r o.b + o.n)))) else none)
    else if o.kind = 5 then
      (if 0 ≤ w64 (f.r o.a + o.n) ∧ w64 (f.r o.a + o.n) < sz ∧ f.wait.length < 64 then some (M, { f with at_ := f.at_ + 1, wait := f.wait ++ [(w64 (f.r o.a + o.n), f.r o.b)] }) else none)
    else if o.kind = 8 then
      (if 0 ≤ w64 (f.r o.a + o.n) ∧ w64 (f.r o.a + o.n) < sz ∧ f.wait = [] ∧ 0 ≤ o.c ∧ o.c < 8 then
        some (if lkM M (w64 (f.r o.a + o.n)) = f.r o.b then (w64 (f.r o.a + o.n), f.r o.c) :: M else M, f.goes o.b (lkM M (w64 (f.r o.a + o.n)))) else none)
    else if o.kind = 9 then
      (if 0 ≤ w64 (f.r o.a + o.n) ∧ w64 (f.r o.a + o.n) < sz ∧ f.wait = [] then
        some ((w64 (f.r o.a + o.n), w64 (lkM M (w64 (f.r o.a + o.n)) + f.r o.b)) :: M, f.goes o.b (lkM M (w64 (f.r o.a + o.n)))) else none)
    else none
def fflush (M : List (Int × Int)) (f : FT) : List (Int × Int) × FT := match f.wait with
  | [] => (M, f)
  | c :: r => (c :: M, { f with wait := r })
def fboth (code : List OpD) (sz : Int) (M : List (Int × Int)) (f : FT) : Option (List (Int × Int) × FT) :=
  if f.fin ≠ 0 then some (fflush M f) else match fstep code sz M f with
  | none => none
  | some (M', f') => some (fflush M' f')
def frun (code : List OpD) (sz : Int) : Nat → List (Int × Int) → FT → Option (List (Int × Int) × FT)
  | 0, M, f => some (M, f)
  | k + 1, M, f => match fboth code sz M f with
    | none => none
    | some (M', f') => frun code sz k M' f'
structure Rep (mm : MM) (n : Nat) (code : List OpD) (sz : Int) (M : List (Int × Int)) (f : FT) : Prop where
  th : ∃ t, mm.ths[n]? = some t ∧ t.code = code ∧ (∀ i, i < 8 → t.reg i = f.reg.getD i 0) ∧ t.at_ = f.at_ ∧ t.wait = f.wait ∧ t.out = f.out ∧ t.fin = f.fin
  len : (mm.mem.length : Int) = sz
  mem : ∀ a : Int, 0 ≤ a → a < sz → mm.at a = lkM M a
  wt : ∀ c ∈ f.wait, 0 ≤ c.1 ∧ c.1 < sz
  rl : f.reg.length = 8
variable {mm : MM} {n : Nat} {code : List OpD} {sz : Int} {M M' : List (Int × Int)} {f f' : FT}
def Oth (n : Nat) (a b : MM) : Prop := ∀ j, j ≠ n → b.ths[j]? = a.ths[j]?
theorem at_set {m : List Int} {evs : List Ev} {ths : List MT} {a b v : Int} (ha : 0 ≤ a) (hl : a < m.length) (hb : 0 ≤ b) : (MM.mk (m.set a.toNat v) ths evs).at b = if a = b then v else (MM.mk m ths evs).at b := by
  unfold MM.at
  simp only [List.getD_eq_getElem?_getD]
  by_cases e : a = b
  · subst e
    rw [if_pos rfl, List.getElem?_set_self (by omega)]
    rfl
  · rw [if_neg e, List.getElem?_set_ne (by omega)]
theorem Rep.flush (h : Rep mm n code sz M f) : Rep (mm.flush n).2 n code sz (fflush M f).1 (fflush M f).2 ∧ Oth n mm (mm.flush n).2 := by
  obtain ⟨t, ht, h1, h2, h3, h4, h5, h6⟩ := h.th
  have hthr : mm.thr (n : Int) = some t := by unfold MM.thr; rw [if_neg (by omega), Int.toNat_natCast]; exact ht
  have hn := (List.getElem?_eq_some_iff.1 ht).1
  cases hw : t.wait with
  | nil =>
    have e1 : mm.flush n = (false, mm) := by unfold MM.flush; rw [hthr]; simp only [hw]
    rw [e1]
    rw [hw] at h4
    have : fflush M f = (M, f) := by unfold fflush; rw [← h4]
    rw [this]
    exact ⟨h, fun _ _ => rfl⟩
  | cons c r =>
    have e1 : mm.flush n = (true, MM.mk (mm.mem.set c.1.toNat c.2) (mm.ths.set n { t with wait := r }) mm.evs) := by unfold MM.flush; rw [hthr]; simp only [hw, MM.put, Int.toNat_natCast]
    rw [e1]
    rw [hw] at h4
    have : fflush M f = (c :: M, { f with wait := r }) := by unfold fflush; rw [← h4]
    rw [this]
    have hc := h.wt c (by rw [← h4]; exact List.mem_cons_self)
    refine ⟨⟨⟨{ t with wait := r }, ?_, h1, h2, h3, rfl, h5, h6⟩, ?_, ?_, ?_, h.rl⟩, ?_⟩
    · simp [hn]
    · simp [h.len]
    · intro a ha hl
      rw [at_set hc.1 (by rw [h.len]; exact hc.2) ha]
      show _ = if c.1 = a then c.2 else lkM M a
      by_cases e : c.1 = a
      · rw [if_pos e, if_pos e]
      · rw [if_neg e, if_neg e]
        exact h.mem a ha hl
    · intro x hx
      exact h.wt x (by rw [← h4]; exact List.mem_cons_of_mem _ hx)
    · intro j hj
      exact List.getElem?_set_ne (fun e => hj e.symm)
theorem reg_goes {t : MT} (h2 : ∀ i, i < 8 → t.reg i = f.reg.getD i 0) (rl : f.reg.length = 8) {i : Int} (hi : 0 ≤ i) (hi8 : i < 8) (v : Int) : ∀ j, j < 8 → (t.goes i v).reg j = (f.goes i v).reg.getD j 0 := by
  intro j hj
  simp only [MT.goes, FT.goes, upd, List.getD_eq_getElem?_getD]
  by_cases e : j = i.toNat
  · subst e
    rw [if_pos rfl, List.getElem?_set_self (by omega)]
    rfl
  · rw [if_neg e, List.getElem?_set_ne (fun q => e q.symm), h2 j hj, List.getD_eq_getElem?_getD]
theorem Rep.step (h : Rep mm n code sz M f) (hf : f.fin = 0) (hs : fstep code sz M f = some (M', f')) : Rep (mm.step n).2 n code sz M' f' ∧ Oth n mm (mm.step n).2 := by
  obtain ⟨t, ht, h1, h2, h3, h4, h5, h6⟩ := h.th
  have hthr : mm.thr (n : Int) = some t := by unfold MM.thr; rw [if_neg (by omega), Int.toNat_natCast]; exact ht
  have hn := (List.getElem?_eq_some_iff.1 ht).1
  have hoth : ∀ x : MT, ∀ j, j ≠ n → (mm.ths.set n x)[j]? = mm.ths[j]? := fun x j hj => List.getElem?_set_ne (fun e => hj e.symm)
  unfold MM.step
  rw [hthr]
  simp only [Int.toNat_natCast]
  rw [if_neg (by rw [h6, hf]; simp)]
  unfold fstep at hs
  cases ho : code[f.at_.toNat]? with
  | none => rw [ho] at hs; cases hs
  | some o =>
    rw [ho] at hs
    simp only at hs
    by_cases hb : f.at_ < 0 ∨ f.reg.length ≠ 8 ∨ o.a < 0 ∨ 8 ≤ o.a ∨ o.b < 0 ∨ 8 ≤ o.b
    · rw [if_pos hb] at hs; cases hs
    rw [if_neg hb] at hs
    have hra : t.r o.a = f.r o.a := by unfold MT.r FT.r; exact h2 _ (by omega)
    have hrb : t.r o.b = f.r o.b := by unfold MT.r FT.r; exact h2 _ (by omega)
    have hcode : (if t.at_ < 0 then none else t.code[t.at_.toNat]?) = some o := by rw [h3, if_neg (by omega), h1]; exact ho
    unfold MM.go
    rw [hcode]
    simp only
    have plain : ∀ (t' : MT) (f' : FT) (evs : List Ev), t'.code = code → (∀ i, i < 8 → t'.reg i = f'.reg.getD i 0) → t'.at_ = f'.at_ → t'.wait = f'.wait → t'.out = f'.out → t'.fin = f'.fin → (∀ c ∈ f'.wait, 0 ≤ c.1 ∧ c.1 < sz) → f'.reg.length = 8 →
        Rep ⟨mm.mem, mm.ths.set n t', evs⟩ n code sz M f' ∧ Oth n mm ⟨mm.mem, mm.ths.set n t', evs⟩ := fun t' f' evs q1 q2 q3 q4 q5 q6 q7 q8 =>
      ⟨⟨⟨t', by simp [hn], q1, q2, q3, q4, q5, q6⟩, h.len, h.mem, q7, q8⟩, hoth t'⟩
    have glen : ∀ i v, (f.goes i v).reg.length = 8 := fun i v => by simp [FT.goes, h.rl]
    by_cases k1 : o.kind = 1
    · rw [if_pos k1] at hs
      cases hs
      have hw : t.word o = none := by unfold MT.word; rw [if_neg (by omega), if_neg (by omega)]
      have hwt : t.waits o = false := by unfold MT.waits; rw [if_neg (by omega), if_neg (by omega)]
      simp only [hw, hwt, MM.act, if_pos k1]
      exact plain _ _ _ h1 (reg_goes h2 h.rl (by omega) (by omega) _) (by simp [MT.goes, FT.goes, h3]) h4 h5 h6 h.wt (glen _ _)
    rw [if_neg k1] at hs
    by_cases k2 : o.kind = 2
    · rw [if_pos k2] at hs
      cases hs
      have hw : t.word o = none := by unfold MT.word; rw [if_neg (by omega), if_neg (by omega)]
      have hwt : t.waits o = false := by unfold MT.waits; rw [if_neg (by omega), if_neg (by omega)]
      simp only [hw, hwt, MM.act, if_neg k1, if_pos k2, hrb]
      exact plain _ _ _ h1 (reg_goes h2 h.rl (by omega) (by omega) _) (by simp [MT.goes, FT.goes, h3]) h4 h5 h6 h.wt (glen _ _)
    rw [if_neg k2] at hs
    by_cases k3 : o.kind = 3
    · rw [if_pos k3] at hs
      have hw : t.word o = none := by unfold MT.word; rw [if_neg (by omega), if_neg (by omega)]
      have hwt : t.waits o = false := by unfold MT.waits; rw [if_neg (by omega), if_neg (by omega)]
      simp only [hw, hwt, MM.act, if_neg k1, if_neg k2, if_pos k3, hra, hrb]
      cases hc : calcS o.cal (f.r o.a) (f.r o.b) with
      | none => rw [hc] at hs; cases hs
      | some v =>
        rw [hc] at hs
        cases hs
        exact plain _ _ _ h1 (reg_goes h2 h.rl (by omega) (by omega) _) (by simp [MT.goes, FT.goes, h3]) h4 h5 h6 h.wt (glen _ _)
    rw [if_neg k3] at hs
    by_cases k6 : o.kind = 6
    · rw [if_pos k6] at hs
      cases hs
      have hw : t.word o = none := by unfold MT.word; rw [if_neg (by omega), if_neg (by omega)]
      have hwt : t.waits o = false := by unfold MT.waits; rw [if_neg (by omega), if_neg (by omega)]
      simp only [hw, hwt, MM.act, if_neg k1, if_neg k2, if_neg k3, if_neg (show ¬ o.kind = 4 by omega), if_neg (show ¬ o.kind = 5 by omega), if_pos k6]
      exact plain _ _ _ h1 h2 rfl h4 h5 h6 h.wt h.rl
    rw [if_neg k6] at hs
    by_cases k7 : o.kind = 7
    · rw [if_pos k7] at hs
      cases hs
      have hw : t.word o = none := by unfold MT.word; rw [if_neg (by omega), if_neg (by omega)]
      have hwt : t.waits o = false := by unfold MT.waits; rw [if_neg (by omega), if_neg (by omega)]
      simp only [hw, hwt, MM.act, if_neg k1, if_neg k2, if_neg k3, if_neg (show ¬ o.kind = 4 by omega), if_neg (show ¬ o.kind = 5 by omega), if_neg k6, if_pos k7, hra]
      exact plain _ _ _ h1 h2 (by rw [h3]) h4 h5 h6 h.wt h.rl
    rw [if_neg k7] at hs
    by_cases k11 : o.kind = 11
    · rw [if_pos k11] at hs
      cases hs
      have hw : t.word o = none := by unfold MT.word; rw [if_neg (by omega), if_neg (by omega)]
      have hwt : t.waits o = false := by unfold MT.waits; rw [if_neg (by omega), if_neg (by omega)]
      simp only [hw, hwt, MM.act, if_neg k1, if_neg k2, if_neg k3, if_neg (show ¬ o.kind = 4 by omega), if_neg (show ¬ o.kind = 5 by omega), if_neg k6, if_neg k7, if_neg (show ¬ o.kind = 8 by omega), if_neg (show ¬ o.kind = 9 by omega), if_neg (show ¬ o.kind = 10 by omega), if_pos k11, hra]
      exact plain _ _ _ h1 h2 (by simp [MT.next, h3]) h4 (by simp [MT.next, h5]) h6 h.wt h.rl
    rw [if_neg k11] at hs
    by_cases k12 : o.kind = 12
    · rw [if_pos k12] at hs
      cases hs
      have hw : t.word o = none := by unfold MT.word; rw [if_neg (by omega), if_neg (by omega)]
      have hwt : t.waits o = false := by unfold MT.waits; rw [if_neg (by omega), if_neg (by omega)]
      simp only [hw, hwt, MM.act, if_neg k1, if_neg k2, if_neg k3, if_neg (show ¬ o.kind = 4 by omega), if_neg (show ¬ o.kind = 5 by omega), if_neg k6, if_neg k7, if_neg (show ¬ o.kind = 8 by omega), if_neg (show ¬ o.kind = 9 by omega), if_neg (show ¬ o.kind = 10 by omega), if_neg k11, if_pos k12]
      exact plain _ _ _ h1 h2 (by simp [MT.next, h3]) h4 h5 h6 h.wt h.rl
    rw [if_neg k12] at hs
    by_cases k14 : o.kind = 14
    · rw [if_pos k14] at hs
      cases hs
      have hw : t.word o = none := by unfold MT.word; rw [if_neg (by omega), if_neg (by omega)]
      have hwt : t.waits o = false := by unfold MT.waits; rw [if_neg (by omega), if_neg (by omega)]
      simp only [hw, hwt, MM.act, if_neg k1, if_neg k2, if_neg k3, if_neg (show ¬ o.kind = 4 by omega), if_neg (show ¬ o.kind = 5 by omega), if_neg k6, if_neg k7, if_neg (show ¬ o.kind = 8 by omega), if_neg (show ¬ o.kind = 9 by omega), if_neg (show ¬ o.kind = 10 by omega), if_neg k11, if_neg k12, if_neg (show ¬ o.kind = 13 by omega), if_pos k14]
      exact plain _ _ _ h1 h2 h3 h4 h5 rfl h.wt h.rl
    rw [if_neg k14] at hs
    by_cases k4 : o.kind = 4 ∨ o.kind = 15
    · rw [if_pos k4] at hs
      split at hs
      · rename_i hr
        cases hs
        have hw : t.word o = some (w64 (f.r o.b + o.n)) := by unfold MT.word; rw [if_pos k4, hrb]
        have hwt : t.waits o = false := by unfold MT.waits; rw [if_neg (by omega), if_neg (by omega)]
        have hhas : mm.has (w64 (f.r o.b + o.n)) = true := by unfold MM.has; rw [decide_eq_true_eq, h.len]; exact hr
        have hfo : mm.found t (w64 (f.r o.b + o.n)) = fnd f M (w64 (f.r o.b + o.n)) := by unfold MM.found fnd; rw [h4, h.mem _ hr.1 hr.2]
        simp only [hw, hwt, hhas, if_true, MM.act, if_neg k1, if_neg k2, if_neg k3, if_neg k6, if_neg k7, if_neg k11, if_neg k12, if_neg k14, if_neg (show ¬ o.kind = 5 by omega), if_neg (show ¬ o.kind = 8 by omega), if_neg (show ¬ o.kind = 9 by omega), if_neg (show ¬ o.kind = 10 by omega), if_neg (show ¬ o.kind = 13 by omega), hfo]
        rcases k4 with k4 | k15
        · simp only [if_pos k4]
          exact plain _ _ _ h1 (reg_goes h2 h.rl (by omega) (by omega) _) (by simp [MT.goes, FT.goes, h3]) h4 h5 h6 h.wt (glen _ _)
        · simp only [if_neg (show ¬ o.kind = 4 by omega), if_pos k15]
          exact plain _ _ _ h1 (reg_goes h2 h.rl (by omega) (by omega) _) (by simp [MT.goes, FT.goes, h3]) h4 h5 h6 h.wt (glen _ _)
      · cases hs
    rw [if_neg k4] at hs
    by_cases k5 : o.kind = 5
    · rw [if_pos k5] at hs
      split at hs
      · rename_i hr
        cases hs
        have hw : t.word o = some (w64 (f.r o.a + o.n)) := by unfold MT.word; rw [if_neg k4, if_pos (by omega), hra]
        have hwt : t.waits o = false := by unfold MT.waits; rw [if_pos k5, h4]; simp; omega
        have hhas : mm.has (w64 (f.r o.a + o.n)) = true := by unfold MM.has; rw [decide_eq_true_eq, h.len]; exact ⟨hr.1, hr.2.1⟩
        simp only [hw, hwt, hhas, if_true, MM.act, if_neg k1, if_neg k2, if_neg k3, if_neg (show ¬ o.kind = 4 by omega), if_pos k5, hrb]
        exact plain _ _ _ h1 h2 (by simp [MT.next, h3]) (by simp [MT.next, h4]) h5 h6 (fun c hc => by
          rcases List.mem_append.1 hc with hc | hc
          · exact h.wt c hc
          · simp at hc; subst hc; exact ⟨hr.1, hr.2.1⟩) h.rl
      · cases hs
    rw [if_neg k5] at hs
    have store : ∀ (a v : Int) (t' : MT) (f' : FT), 0 ≤ a → a < sz → t'.code = code → (∀ i, i < 8 → t'.reg i = f'.reg.getD i 0) → t'.at_ = f'.at_ → t'.wait = f'.wait → t'.out = f'.out → t'.fin = f'.fin → (∀ c ∈ f'.wait, 0 ≤ c.1 ∧ c.1 < sz) → f'.reg.length = 8 →
        Rep ⟨mm.mem.set a.toNat v, mm.ths.set n t', mm.evs⟩ n code sz ((a, v) :: M) f' ∧ Oth n mm ⟨mm.mem.set a.toNat v, mm.ths.set n t', mm.evs⟩ := fun a v t' f' ha hl q1 q2 q3 q4 q5 q6 q7 q8 =>
      ⟨⟨⟨t', by simp [hn], q1, q2, q3, q4, q5, q6⟩, by simp [h.len], fun b hb hbl => by
        rw [at_set ha (by rw [h.len]; exact hl) hb]
        show _ = if a = b then v else lkM M b
        by_cases e : a = b
        · rw [if_pos e, if_pos e]
        · rw [if_neg e, if_neg e]; exact h.mem b hb hbl, q7, q8⟩, hoth t'⟩
    by_cases k8 : o.kind = 8
    · rw [if_pos k8] at hs
      split at hs
      · rename_i hr
        cases hs
        have hw : t.word o = some (w64 (f.r o.a + o.n)) := by unfold MT.word; rw [if_neg k4, if_pos (by omega), hra]
        have hwt : t.waits o = false := by unfold MT.waits; rw [if_neg k5, if_pos (by omega), h4, hr.2.2.1]; rfl
        have hhas : mm.has (w64 (f.r o.a + o.n)) = true := by unfold MM.has; rw [decide_eq_true_eq, h.len]; exact ⟨hr.1, hr.2.1⟩
        have hrc : t.r o.c = f.r o.c := by unfold MT.r FT.r; exact h2 _ (by omega)
        simp only [hw, hwt, hhas, if_true, MM.act, if_neg k1, if_neg k2, if_neg k3, if_neg (show ¬ o.kind = 4 by omega), if_neg k5, if_neg k6, if_neg k7, if_pos k8, hrb, hrc, h.mem _ hr.1 hr.2.1]
        by_cases e : lkM M (w64 (f.r o.a + o.n)) = f.r o.b
        · simp only [if_pos e]
          exact store _ _ _ _ hr.1 hr.2.1 h1 (reg_goes h2 h.rl (by omega) (by omega) _) (by simp [MT.goes, FT.goes, h3]) h4 h5 h6 h.wt (glen _ _)
        · simp only [if_neg e]
          exact plain _ _ _ h1 (reg_goes h2 h.rl (by omega) (by omega) _) (by simp [MT.goes, FT.goes, h3]) h4 h5 h6 h.wt (glen _ _)
      · cases hs
    rw [if_neg k8] at hs
    by_cases k9 : o.kind = 9
    · rw [if_pos k9] at hs
      split at hs
      · rename_i hr
        cases hs
        have hw : t.word o = some (w64 (f.r o.a + o.n)) := by unfold MT.word; rw [if_neg k4, if_pos (by omega), hra]
        have hwt : t.waits o = false := by unfold MT.waits; rw [if_neg k5, if_pos (by omega), h4, hr.2.2]; rfl
        have hhas : mm.has (w64 (f.r o.a + o.n)) = true := by unfold MM.has; rw [decide_eq_true_eq, h.len]; exact ⟨hr.1, hr.2.1⟩
        simp only [hw, hwt, hhas, if_true, MM.act, if_neg k1, if_neg k2, if_neg k3, if_neg (show ¬ o.kind = 4 by omega), if_neg k5, if_neg k6, if_neg k7, if_neg k8, if_pos k9, hrb, h.mem _ hr.1 hr.2.1]
        exact store _ _ _ _ hr.1 hr.2.1 h1 (reg_goes h2 h.rl (by omega) (by omega) _) (by simp [MT.goes, FT.goes, h3]) h4 h5 h6 h.wt (glen _ _)
      · cases hs
    rw [if_neg k9] at hs
    cases hs
theorem timesS_n (th z : Int) : ∀ k, timesS ⟨2, th, z⟩ k = timesS ⟨2, th, 0⟩ k := by
  intro k
  induction k with
  | zero => rfl
  | succ k ih => unfold timesS; rw [ih]; rfl
theorem timesS_cons (p : PickD) : ∀ k, timesS p (k + 1) = onceS p ++ timesS p k := by
  intro k
  induction k with
  | zero => simp [timesS]
  | succ k ih =>
    have e : timesS p (k + 1 + 1) = timesS p (k + 1) ++ onceS p := rfl
    have e2 : timesS p (k + 1) = timesS p k ++ onceS p := rfl
    rw [e, ih, List.append_assoc, ← e2, ih]
theorem onceS_both (n : Nat) (z : Int) (mm : MM) (st : Int) : (doActs (mm, st) (onceS ⟨2, n, z⟩)).1 = ((mm.step n).2.flush n).2 := by
  have e : onceS ⟨2, n, z⟩ = [.step n, .flush n] := rfl
  rw [e]
  rfl
theorem Rep.both (h : Rep mm n code sz M f) (hs : fboth code sz M f = some (M', f')) (st : Int) : Rep (doActs (mm, st) (onceS ⟨2, n, 0⟩)).1 n code sz M' f' ∧ Oth n mm (doActs (mm, st) (onceS ⟨2, n, 0⟩)).1 := by
  rw [onceS_both]
  unfold fboth at hs
  split at hs
  · rename_i hf
    obtain ⟨t, ht, -, -, -, -, -, h6⟩ := h.th
    have hthr : mm.thr (n : Int) = some t := by unfold MM.thr; rw [if_neg (by omega), Int.toNat_natCast]; exact ht
    have e : (mm.step n).2 = mm := by unfold MM.step; rw [hthr]; simp only; rw [if_pos (by rw [h6]; exact hf)]
    rw [e]
    have h1 := h.flush
    rw [Option.some.injEq] at hs
    rw [hs] at h1
    exact h1
  · rename_i hf
    cases hq : fstep code sz M f with
    | none => rw [hq] at hs; cases hs
    | some p =>
      obtain ⟨M1, f1⟩ := p
      rw [hq] at hs
      simp only [Option.some.injEq] at hs
      have h1 := h.step (by simpa using hf) hq
      have h2 := h1.1.flush
      rw [hs] at h2
      exact ⟨h2.1, fun j hj => (h2.2 j hj).trans (h1.2 j hj)⟩
theorem Rep.run : ∀ (k : Nat) {mm : MM} {M : List (Int × Int)} {f : FT} (st : Int), Rep mm n code sz M f → frun code sz k M f = some (M', f') → Rep (doActs (mm, st) (timesS ⟨2, n, 0⟩ k)).1 n code sz M' f' ∧ Oth n mm (doActs (mm, st) (timesS ⟨2, n, 0⟩ k)).1 := by
  intro k
  induction k with
  | zero =>
    intro mm M f st h hs
    simp only [frun, Option.some.injEq, Prod.mk.injEq] at hs
    obtain ⟨rfl, rfl⟩ := hs
    exact ⟨h, fun _ _ => rfl⟩
  | succ k ih =>
    intro mm M f st h hs
    unfold frun at hs
    cases hq : fboth code sz M f with
    | none => rw [hq] at hs; cases hs
    | some p =>
      obtain ⟨M1, f1⟩ := p
      rw [hq] at hs
      simp only at hs
      obtain ⟨h1, h2⟩ := h.both hq st
      rw [timesS_cons, doActs_app]
      have e : doActs (mm, st) (onceS ⟨2, n, 0⟩) = ((doActs (mm, st) (onceS ⟨2, n, 0⟩)).1, (doActs (mm, st) (onceS ⟨2, n, 0⟩)).2) := rfl
      rw [e]
      have h4 := ih (doActs (mm, st) (onceS ⟨2, n, 0⟩)).2 h1 hs
      exact ⟨h4.1, fun j hj => (h4.2 j hj).trans (h2 j hj)⟩
theorem frun_end (hf : f.fin ≠ 0) (hw : f.wait = []) : ∀ k, frun code sz k M f = some (M, f) := by
  intro k
  induction k with
  | zero => rfl
  | succ k ih =>
    have : fboth code sz M f = some (M, f) := by unfold fboth; rw [if_pos hf]; unfold fflush; rw [hw]
    unfold frun
    rw [this]
    exact ih
theorem frun_succ (k : Nat) (M : List (Int × Int)) (f : FT) : frun code sz (k + 1) M f = (match fboth code sz M f with | none => none | some (M', f') => frun code sz k M' f') := rfl
theorem frun_add : ∀ (j : Nat) {M M1 : List (Int × Int)} {f f1 : FT} (k : Nat), frun code sz j M f = some (M1, f1) → frun code sz (j + k) M f = frun code sz k M1 f1 := by
  intro j
  induction j with
  | zero =>
    intro M M1 f f1 k h
    simp only [frun, Option.some.injEq, Prod.mk.injEq] at h
    obtain ⟨rfl, rfl⟩ := h
    rw [Nat.zero_add]
  | succ j ih =>
    intro M M1 f f1 k h
    rw [Nat.add_right_comm, frun_succ]
    rw [frun_succ] at h
    cases hq : fboth code sz M f with
    | none => rw [hq] at h; cases h
    | some p =>
      obtain ⟨Mp, fp⟩ := p
      rw [hq] at h
      exact ih k h
end
theorem rowsLen_take (rs : List (List Tx)) : ∀ j, rowsLen (rs.take j) ≤ rowsLen rs := by
  induction rs with
  | nil => intro j; simp
  | cons l rs ih =>
    intro j
    cases j with
    | zero => simp [rowsLen]
    | succ j => rw [List.take_succ_cons, rowsLen_cons, rowsLen_cons]; have := ih j; omega
theorem bn_put_over {c : Cd} {o : OpD} (h : (c.put o).over = false) : c.over = false := by
  unfold Cd.put at h
  split at h
  · simp at h
  · exact h
theorem prog_fits_take {t : TxC} {rs : List (List Tx)} (h : progLen rs ≤ 262144) (j : Nat) : (rowsCd t (rs.take j)).over = false ∧ (rowsCd t (rs.take j)).halt.over = false := by
  have h1 := (prog_fits (t := t) (rs := rs.take j) (by unfold progLen at *; have := rowsLen_take rs j; omega)).1
  exact ⟨bn_put_over h1, h1⟩
abbrev Ths := List (Value × List (Value × List Tx))
def progs (ts : Ths) : Nat := (ts.map fun t => progLen (rowsOf t)).sum
theorem progs_mem {ts : Ths} {t : Value × List (Value × List Tx)} (h : t ∈ ts) : progLen (rowsOf t) ≤ progs ts := by
  unfold progs
  induction ts with
  | nil => cases h
  | cons a l ih =>
    rw [List.map_cons, List.sum_cons]
    rcases List.mem_cons.1 h with rfl | h
    · omega
    · have := ih h; omega
theorem progs_take (ts : Ths) : ∀ j, progs (ts.take j) ≤ progs ts := by
  unfold progs
  induction ts with
  | nil => intro j; simp
  | cons a l ih =>
    intro j
    cases j with
    | zero => simp
    | succ j => rw [List.take_succ_cons, List.map_cons, List.sum_cons, List.map_cons, List.sum_cons]; have := ih j; omega
theorem codes_prog {words : Int} {n : Nat} {ts : Ths} {cs : List (Nat × List OpD)} (h : CodesAre words n ts cs) (hp : ∀ t ∈ ts, progLen (rowsOf t) ≤ 262144) : cs.map Prod.snd = ts.mapIdx (fun i t => xprog (imgTx words n i) (rowsOf t)) := by
  refine List.ext_getElem (by simp [h.len]) fun i h1 h2 => ?_
  have hi : i < cs.length := by simpa using h1
  have ht : i < ts.length := by rw [← h.len]; exact hi
  rw [List.getElem_map, List.getElem_mapIdx]
  obtain ⟨e1, e2⟩ := h.at_ i _ _ (List.getElem?_eq_getElem hi) (List.getElem?_eq_getElem ht)
  rw [e1]
  exact (prog_fits (hp _ (List.getElem_mem ht))).2.1
theorem lenSum_prog {words : Int} {n : Nat} {ts : Ths} {cs : List (Nat × List OpD)} (h : CodesAre words n ts cs) (hp : ∀ t ∈ ts, progLen (rowsOf t) ≤ 262144) : lenSum cs = progs ts := by
  have e : lenSum cs = ((cs.map Prod.snd).map List.length).sum := by unfold lenSum; rw [List.map_map]; rfl
  rw [e, codes_prog h hp]
  unfold progs
  congr 1
  refine List.ext_getElem (by simp) fun i h1 h2 => ?_
  simp [xprog_len]
theorem few_room {words : Int} {ts : Ths} (h : ts.length ≤ 4) (hm : mkErr words (imgZs ts.length) = 0) (hp : progs ts ≤ 262144) : ¬ Fail3 words ts := by
  have hp1 : ∀ t ∈ ts, progLen (rowsOf t) ≤ 262144 := fun t ht => Nat.le_trans (progs_mem ht) hp
  rintro (q | q | ⟨i, t, j, ht, hj, q⟩ | ⟨i, cs, hi, hc, q⟩)
  · omega
  · rw [hm] at q; cases q
  · have ht' := List.mem_of_getElem? ht
    have e : (t.2.take j).map Prod.snd = (rowsOf t).take j := by unfold rowsOf; rw [List.map_take]
    rw [e] at q
    obtain ⟨a, b⟩ := prog_fits_take (t := imgTx words ts.length i) (hp1 t ht') j
    rcases q with q | q
    · rw [a] at q; cases q
    · rw [b] at q; cases q
  · have := lenSum_prog hc (fun t ht => hp1 t (List.mem_of_mem_take ht))
    have := progs_take ts i
    omega
theorem tk_fit {n : Int} {s : Int × Bool} (h : s.1 + n ≤ 262144) : tk n s = (s.1 + n, s.2) := by unfold tk; rw [if_neg (by omega)]
theorem fin_fit (n : Nat) : ∀ {s : Int × Bool}, s.2 = false → s.1 + 4320 * n ≤ 262144 → (fin (imgZs n) s).2 = false := by
  induction n with
  | zero => intro s h _; exact h
  | succ n ih =>
    intro s h h2
    have e : adv 32 s = (s.1 + 4320, s.2) := by
      unfold adv
      rw [tk_fit (n := 32) (s := s) (by omega), tk_fit (n := 128) (by simp only; omega), tk_fit (n := 64) (by simp only; omega), tk_fit (n := 4096) (by simp only; omega)]
      simp only
      congr 1
      omega
    show (fin (imgZs n) (adv 32 s)).2 = false
    rw [e]
    exact ih h (by simp only; omega)
theorem mkErr_few {words : Int} {n : Nat} (h : 0 ≤ words) (h2 : words ≤ 65536) (hn : n ≤ 4) : mkErr words (imgZs n) = 0 := by
  rw [mkErr_fin h (fun j hj => imgZs_nonneg n _ (by unfold nth; rw [List.getD_eq_getElem?_getD, List.getElem?_eq_getElem hj]; exact List.getElem_mem hj)) (by rw [imgZs_len]; exact hn), if_neg]
  have e : s0 words = (words + 18, false) := by
    unfold s0
    rw [tk_fit (n := words) (by simp only; omega), tk_fit (n := 17) (by simp only; omega)]
    simp only
    congr 1
    omega
  rw [e, fin_fit n rfl (by simp only; omega)]
  decide
theorem image_few {w w' : World} {e : Ending} {words : Int} {ts : Ths} (h : ImagePost words ts w e w') (h0 : 0 ≤ words) (h1 : words ≤ 65536) (hn : ts.length ≤ 4) (hp : progs ts ≤ 262144) (ho : ∀ t ∈ ts, okRows words t.2 = true) :
    Below w.heap.size w w' ∧ ∃ (co : Option Addr) (cc : Nat) (cs : List (Nat × List OpD)), e = .returned (.tuple #[.agg #[.slice co cs.length cc, .int .i64 (imgSize words ts.length), .slice none 0 0], .int .i64 0]) ∧
      w'.ownsRow w.heap.size 79 1 (.slice co cs.length cc) cs.length (cs.map codeV1) ∧ CodesIn w' w.heap.size cs ∧
      cs.map Prod.snd = ts.mapIdx (fun i t => xprog (imgTx words ts.length i) (rowsOf t)) ∧ lenSum cs ≤ 262144 := by
  obtain ⟨hb, hr⟩ := h
  refine ⟨hb, ?_⟩
  have hm := mkErr_few (n := ts.length) h0 h1 hn
  rcases hr with ⟨en, -, ⟨-, q | ⟨t, ht, q⟩⟩ | ⟨-, q⟩⟩ | ⟨co, cc, cs, he, hown, hin, hare, hsum, -⟩
  · omega
  · rw [ho t ht] at q; cases q
  · exact absurd q (few_room hn hm hp)
  · exact ⟨co, cc, cs, he, hown, hin, codes_prog hare (fun t ht => Nat.le_trans (progs_mem ht) hp), hsum⟩
theorem SeenAt.below {w w' : World} {v : Value} {ls : List SX} (h : SeenAt w v ls) (hb : Below w.heap.size w w') : SeenAt w' v ls := ⟨Rd.below h.rows hb, fun s hs => Rd.below (h.each s hs) hb⟩
section
variable {w w' : World} {base : Nat}
structure RowVar (w : World) (base x : Nat) (l : List PickD) (v : Value) : Prop where
  box : w.heap[x]? = some (.cells #[v] 131 (0, 0))
  row : w.ownsRow base 134 3 v l.length (l.flatMap encPk)
  ne : v.ownBlock ≠ some x
theorem RowVar.keep {x : Nat} {l : List PickD} {v : Value} (h : RowVar w base x l v) (hk : ∀ g, g = x ∨ v.ownBlock = some g → g < w.heap.size → w'.heap[g]? = w.heap[g]?) : RowVar w' base x l v :=
  ⟨(hk x (.inl rfl) (lt_of_block h.box)).trans h.box, ownRow_keep h.row fun g hg hl => hk g (.inr hg) hl, h.ne⟩
end
section
variable {w w' : World} {base : Nat}
structure TwoVar (w0 w : World) (xa xb : Nat) (A B : List PickD) (va vb : Value) : Prop where
  a : RowVar w w0.heap.size xa A va
  b : RowVar w w0.heap.size xb B vb
  ab : va.ownBlock ≠ some xb
  ba : vb.ownBlock ≠ some xa
  rows : ∀ g, va.ownBlock = some g → vb.ownBlock ≠ some g
  ne : xa ≠ xb
  la : w0.heap.size ≤ xa
  lb : w0.heap.size ≤ xb
  old : Below w0.heap.size w0 w
theorem TwoVar.below {w0 w w' : World} {xa xb : Nat} {A B : List PickD} {va vb : Value} (h : TwoVar w0 w xa xb A B va vb) (hb : Below w.heap.size w w') : TwoVar w0 w' xa xb A B va vb :=
  ⟨h.a.keep fun g _ hl => hb.block g hl, h.b.keep fun g _ hl => hb.block g hl, h.ab, h.ba, h.rows, h.ne, h.la, h.lb, h.old.trans (hb.mono h.old.size)⟩
theorem lengthS_ok {l : List PickD} (h : (lengthS l).2 = 0) : l.length ≤ 65536 ∧ l.any pbad = false ∧ total l ≤ 1048576 ∧ (lengthS l).1 = total l := by
  unfold lengthS at h ⊢
  split at h
  · cases h
  split at h
  · cases h
  split at h
  · cases h
  rename_i h1 h2 h3
  rw [if_neg h1, if_neg h2, if_neg h3]
  exact ⟨by omega, by simpa using h2, by omega, rfl⟩
end
section
variable {w w' : World} {base b : Nat}
theorem run_yes {ca cca sa : Option Addr} {ccap ccca scap : Nat} {l : List (Value × List OpD)} {cs : List (Int × Int)} {sc : List PickD} (h : CodeAt w (.slice ca l.length ccap) l) (hc : RdT encCell w 2 (.slice cca cs.length ccca) cs) (mem : Int) (hl : l.length ≤ 6000000000000) (hcl : cs.length ≤ 9000000000000) (hk : checkM mem l cs = 0)
    (hs : RdT encPk w 3 (.slice sa sc.length scap) sc) (hm : sc.length ≤ 9000000000000) (hn : ∀ p ∈ sc, -9223372036854775808 ≤ p.n ∧ 0 ≤ p.kind) (he : (lengthS sc).2 = 0) :
    Calls Tryz.prog 125 #[.agg #[.slice ca l.length ccap, .int .i64 mem, .slice cca cs.length ccca], .slice sa sc.length scap] w (RunTrace (doActs (newM mem (l.map (·.2)) cs, 0) (actsS sc)) w) := by
  have H := hidI h
  have HC := hidI hc
  have HS := hidI hs
  have HN := hidI hn
  have HL := hidI hl
  have HCL := hidI hcl
  have HM := hidI hm
  have HK := hidI hk
  clear h hc hs hn hl hcl hm hk
  have o1 := fun w a => run_store Tryz.prog w a .nilFunc .plain rfl
  have o2 := fun w a f c d => run_store Tryz.prog w a (.func f c d) .plain rfl
  have hmf : ∀ (fn : Fn) (first cap : Array Value) (w : World), (Instr.makeFunc fn first cap).run Tryz.prog w = .ok (.func fn first cap) w := fun _ _ _ _ => rfl
  go_enter Tryz.func125, Tryz.ntmps125
  have hb0 : Below w.heap.size w ((w.alloc (.cells #[.slice ca l.length ccap, .int .i64 mem, .slice cca cs.length ccca] 30)).alloc (.cells #[.slice none 0 0, .slice none 0 0, .int .i64 0] 137)) := ((Below.refl w.heap.size w).alloc (Nat.le_refl _) _).alloc (by simp) _
  have htr := block_new2 w (.cells #[.slice ca l.length ccap, .int .i64 mem, .slice cca cs.length ccca] 30) (.cells #[.slice none 0 0, .slice none 0 0, .int .i64 0] 137)
  have H0 := hidI (H.out.below hb0)
  have HC0 := hidI (Rd.below HC.out hb0)
  have HB0 := hidI hb0
  have HTR := hidI htr
  clear hb0 htr
  go_wp2_with fail
  refine (new_yes H0.out HC0.out mem HL.out HCL.out HK.out).mono ?_
  rintro e w1 ⟨b, own, xs, mv, tv, rfl, hma, hb⟩
  have HMA := hidI hma
  have HB := hidI (bnextAA (Below.refl w.heap.size w) hb)
  have HT1 := hidI (blk hb HTR.out)
  clear hma hb HTR
  go_wp2_with fail
  have hbx : Below w1.heap.size w1 (w1.alloc (.cells #[.pointer (some ⟨b, 0, none⟩)] 334)) := (Below.refl _ _).alloc (Nat.le_refl _) _
  have HNX := hidI (show w.heap.size + 2 ≤ w1.heap.size from by have h9 := (MOff.of_live (MLive.of HMA.out (newM_ok H0.out HK.out))).base_le; simpa using h9)
  have HMX := hidI (((MOff.of_live (show MLive w1 (w.heap.size + 2) b _ 0 from by have h9 := MLive.of HMA.out (newM_ok H0.out HK.out); simpa using h9)).addOld (q := w.heap.size + 1) (by omega)).alloc (.cells #[.pointer (some ⟨b, 0, none⟩)] 334))
  have HBX := hidI (bnext HB.out hbx)
  have HTX := hidI (blk hbx HT1.out)
  have HX1 := hidI (block_new w1 (.cells #[.pointer (some ⟨b, 0, none⟩)] 334))
  clear hbx HT1 HMA HB
  refine (length_any (Rd.below HS.out HBX.out) HM.out HN.out).mono ?_
  rintro e w2 ⟨rfl, hb⟩
  rw [he]
  have HB2 := hidI (bnext HBX.out hb)
  have HT2 := hidI (blk hb HTX.out)
  have HX2 := hidI (blk hb HX1.out)
  have HMO := hidI (HMX.out.below hb)
  clear hb HTX HX1 HMX HBX
  have hrun : RunAt ((w2.alloc (.cells #[.int .i64 0] 3)).alloc (.cells #[.func (.func 193) #[] #[.pointer (some ⟨w1.heap.size, 0, none⟩), .pointer (some ⟨w2.heap.size, 0, none⟩)]] 340)) (w.heap.size + 2) b w1.heap.size w2.heap.size (w2.heap.size + 1) (newM mem (l.map (·.2)) cs) 0 0 [w2.heap.size + 1, w2.heap.size, w1.heap.size, w.heap.size + 1] := by
    have h0 := HMO.out
    have h1 := (h0.alloc (.cells #[.int .i64 0] 3)).alloc (.cells #[.func (.func 193) #[] #[.pointer (some ⟨w1.heap.size, 0, none⟩), .pointer (some ⟨w2.heap.size, 0, none⟩)]] 340)
    rw [World.size_alloc] at h1
    have hl := lt_of_block HX2.out
    have hl2 := HB2.out.size
    have hl3 := h0.base_le
    exact ⟨h1, block_alloc (block_alloc HX2.out), block_alloc (block_new _ _), block_new2 _ _ _, by simp, by simp, by simp, by omega, by omega, by omega⟩
  have HRUN := hidI hrun
  have HT3 := hidI (block_alloc (o := .cells #[.func (.func 193) #[] #[.pointer (some ⟨w1.heap.size, 0, none⟩), .pointer (some ⟨w2.heap.size, 0, none⟩)]] 340) (block_alloc (o := .cells #[.int .i64 0] 3) HT2.out))
  have HB3 := hidI ((HB2.out.alloc HB2.out.size (.cells #[.int .i64 0] 3)).alloc (by have := HB2.out.size; simp; omega) (.cells #[.func (.func 193) #[] #[.pointer (some ⟨w1.heap.size, 0, none⟩), .pointer (some ⟨w2.heap.size, 0, none⟩)]] 340))
  have HLN := hidI (lengthS_ok he)
  clear hrun he
  go_wp2_with fail
  go_loopw [36] (fun i w' => ∃ k : Nat, k ≤ sc.length ∧ i = .int .i64 (k : Int) ∧ Hid (∃ N' : Nat, (N' : Int) ≤ total (sc.take k) ∧ 0 ≤ (doActs (newM mem (l.map (·.2)) cs, 0) (actsS (sc.take k))).2 ∧ (doActs (newM mem (l.map (·.2)) cs, 0) (actsS (sc.take k))).2 ≤ N' ∧
    RunAt w' (w.heap.size + 2) b w1.heap.size w2.heap.size (w2.heap.size + 1) (doActs (newM mem (l.map (·.2)) cs, 0) (actsS (sc.take k))).1 (doActs (newM mem (l.map (·.2)) cs, 0) (actsS (sc.take k))).2 N' [w2.heap.size + 1, w2.heap.size, w1.heap.size, w.heap.size + 1]) ∧
    Hid (w'.heap[w.heap.size + 1]? = some (.cells #[.slice none 0 0, .slice none 0 0, .int .i64 0] 137 (0, 0))) ∧ Hid (Below w.heap.size w w')) (fun i _ => ((sc.length : Int) - intOf i).toNat)
  case atStart => exact ⟨0, by omega, rfl, ⟨0, by simp [total], by simp [actsS, doActs], by simp [actsS, doActs], HRUN.out⟩, HT3, HB3⟩
  case round =>
    clear HT3 HB3 HRUN HT2 HB2 HX2 HMO
    obtain ⟨k, hk, rfl, HR, HT, HB⟩ := hrel
    by_cases hlt : k < sc.length
    · obtain ⟨x, hx⟩ := some_at hlt
      obtain ⟨b1, o1', rfl, hs1, hc1⟩ := RdT.at encPk_len (Rd.below HS.out HB.out) hx
      have x0 := hc1 0 _ rfl
      have x1 := hc1 1 _ rfl
      have x2 := hc1 2 _ rfl
      simp only [Nat.add_zero] at x0
      obtain ⟨kk, th, nn⟩ := x
      simp only at x0 x1 x2
      have hbx : pbad ⟨kk, th, nn⟩ = false := by
        have := List.any_eq_false.1 HLN.out.2.1 _ (List.mem_of_getElem? hx)
        simpa using this
      have hn0 : 0 ≤ nn := by unfold pbad at hbx; simp at hbx; omega
      have hp0 := plen_ge hbx
      have htk : total (sc.take (k + 1)) ≤ 1048576 := by
        have h1 := total_app (sc.take (k + 1)) (sc.drop (k + 1))
        rw [List.take_append_drop] at h1
        have : 0 ≤ total (sc.drop (k + 1)) := total_ge (by
          refine List.any_eq_false.2 fun y hy => ?_
          exact List.any_eq_false.1 HLN.out.2.1 y (List.mem_of_mem_drop hy))
        have := HLN.out.2.2.1
        omega
      have ht0 : 0 ≤ total (sc.take k) := total_ge (by
        refine List.any_eq_false.2 fun y hy => ?_
        exact List.any_eq_false.1 HLN.out.2.1 y (List.mem_of_mem_take hy))
      rw [take_snoc hx, total_snoc] at htk
      have hpl : nn ≤ plen ⟨kk, th, nn⟩ := by
        unfold plen at htk ⊢
        simp only at htk ⊢
        split at htk <;> split <;> omega
      obtain ⟨N0, hN0, hq0, hq1, hR⟩ := HR.out
      obtain ⟨S, hS⟩ : ∃ S, S = doActs (newM mem (l.map (·.2)) cs, 0) (actsS (sc.take k)) := ⟨_, rfl⟩
      rw [← hS] at hq0 hq1 hR
      have HSEQ := hidI hS.symm
      have HNN := hidI hN0
      have HPL := hidI hpl
      have HNL : Hid (nn ≤ 1048576 ∧ total (sc.take k) ≤ 1048576) := hidI ⟨by omega, by omega⟩
      have HX := hidI hx
      have hnb : nn ≤ 1048576 := HNL.out.1
      have hkb : sc.length ≤ 65536 := HLN.out.1
      obtain ⟨w3, rfl⟩ : ∃ q, q = wr := ⟨_, rfl⟩
      clear hc1 hx hbx hp0 htk ht0 hpl hN0 hS HR
      by_cases hk1 : kk = 1
      · subst hk1
        go_wp2_with fail
        have hpb := block_new w3 (.cells (encPk ⟨1, th, nn⟩).toArray 134)
        have HPB := hidI hpb
        clear hpb
        have HA0 := hidI (hR.addBox (.cells (encPk ⟨1, th, nn⟩).toArray 134))
        have HTa := hidI (block_alloc (o := .cells (encPk ⟨1, th, nn⟩).toArray 134) HT.out)
        have HBa := hidI (HB.out.alloc HB.out.size (.cells (encPk ⟨1, th, nn⟩).toArray 134))
        have hne : w3.heap.size ≠ w2.heap.size := by have := lt_of_block hR.s; omega
        have hne2 : w.heap.size + 1 ≠ w2.heap.size := by have := hR.lo; omega
        have HNE := hidI hne
        have HNE2 := hidI hne2
        have HSN : Hid (0 ≤ S.2 ∧ S.2 ≤ N0) := hidI ⟨hq0, hq1⟩
        clear hR hq0 hq1 hne hne2 HT HB
        go_loopw [51] (fun i w' => ∃ j : Nat, (j : Int) ≤ nn ∧ i = .int .i64 (j : Int) ∧ Hid (∃ N' : Nat, (N' : Int) ≤ N0 + j ∧ 0 ≤ (doActs S (timesS ⟨1, th, nn⟩ j)).2 ∧ (doActs S (timesS ⟨1, th, nn⟩ j)).2 ≤ N' ∧
          RunAt w' (w.heap.size + 2) b w1.heap.size w2.heap.size (w2.heap.size + 1) (doActs S (timesS ⟨1, th, nn⟩ j)).1 (doActs S (timesS ⟨1, th, nn⟩ j)).2 N' [w3.heap.size, w2.heap.size + 1, w2.heap.size, w1.heap.size, w.heap.size + 1]) ∧
          Hid (w'.heap[w3.heap.size]? = some (.cells (encPk ⟨1, th, nn⟩).toArray 134 (0, 0))) ∧ Hid (w'.heap[w.heap.size + 1]? = some (.cells #[.slice none 0 0, .slice none 0 0, .int .i64 0] 137 (0, 0))) ∧ Hid (Below w.heap.size w w')) (fun i _ => nn.toNat - (intOf i).toNat)
        case atStart => exact ⟨0, hn0, rfl, ⟨N0, by simp, by simpa [timesS, doActs] using HSN.out.1, by simpa [timesS, doActs] using HSN.out.2, HA0.out⟩, HPB, HTa, HBa⟩
        case round =>
          clear HPB HTa HBa HA0
          obtain ⟨j, hj, rfl, HR, HPB, HT, HB⟩ := hrel
          by_cases hlt2 : (j : Int) < nn
          · obtain ⟨N1, hN1, h0, h1, hR⟩ := HR.out
            have HRR := hidI hR
            have H0 := hidI h0
            have H1 := hidI h1
            have HN1 := hidI hN1
            clear HR hR h0 h1 hN1
            go_wp2_with fail
            refine (run3 HRR.out HPB.out rfl).mono ?_
            rintro e w4 ⟨rfl, hr4, hst, hb4⟩
            have hsn : doActs S (timesS ⟨1, th, nn⟩ (j + 1)) = doActs (doActs S (timesS ⟨1, th, nn⟩ j)) (onceS ⟨1, th, nn⟩) := by rw [timesS, doActs_app]
            rw [show ((doActs S (timesS ⟨1, th, nn⟩ j)).1, (doActs S (timesS ⟨1, th, nn⟩ j)).2) = doActs S (timesS ⟨1, th, nn⟩ j) from rfl, ← hsn] at hr4
            have hstp := once_steps (doActs S (timesS ⟨1, th, nn⟩ j)) ⟨1, th, nn⟩
            rw [← hsn] at hstp
            have HR4 := hidI hr4
            have HST := hidI hstp
            have HPB4 := hidI ((hst w3.heap.size (by simp) HNE.out).trans HPB.out)
            have HT4 := hidI ((hst (w.heap.size + 1) (by simp) HNE2.out).trans HT.out)
            have HB4 := hidI (HB.out.trans (hb4.mono (by omega)))
            clear hr4 hst hb4 hsn hstp
            go_wp2_with fail
            exact ⟨⟨j + 1, by omega, by go_num, ⟨N1 + 1, by have := HN1.out; omega, by have := H0.out; have := HST.out; omega, by have := H1.out; have := HST.out; omega, HR4.out.more⟩, HPB4, HT4, HB4⟩, by simp [intOf]; omega⟩
          · have hjn : nn.toNat = j := by omega
            go_wp2_with fail
            obtain ⟨N1, hN1, h0, h1, hR⟩ := HR.out
            have hfin : doActs (newM mem (l.map (·.2)) cs, 0) (actsS (sc.take (k + 1))) = doActs S (timesS ⟨1, th, nn⟩ j) := by
              rw [take_snoc HX.out, actsS_snoc, doActs_app, HSEQ.out]
              simp only [pickS]
              rw [hjn]
            exact ⟨⟨k + 1, by omega, by go_num, ⟨N1, by rw [take_snoc HX.out, total_snoc]; have := HNN.out; have := HPL.out; omega, by rw [hfin]; exact h0, by rw [hfin]; exact h1, by rw [hfin]; exact hR.less (fun q hq => by simp at hq; simp [hq]) (by simp) (by simp) (by simp)⟩, HT, HB⟩, by simp [intOf]; omega⟩
      · have hkb1 : (kk == 1) = false := by simpa using hk1
        by_cases hk2 : kk = 2
        · subst hk2
          go_wp2_with fail
          have hpb := block_new w3 (.cells (encPk ⟨2, th, nn⟩).toArray 134)
          have HPB := hidI hpb
          clear hpb
          have HA0 := hidI (hR.addBox (.cells (encPk ⟨2, th, nn⟩).toArray 134))
          have HTa := hidI (block_alloc (o := .cells (encPk ⟨2, th, nn⟩).toArray 134) HT.out)
          have HBa := hidI (HB.out.alloc HB.out.size (.cells (encPk ⟨2, th, nn⟩).toArray 134))
          have hne : w3.heap.size ≠ w2.heap.size := by have := lt_of_block hR.s; omega
          have hne2 : w.heap.size + 1 ≠ w2.heap.size := by have := hR.lo; omega
          have HNE := hidI hne
          have HNE2 := hidI hne2
          have HSN : Hid (0 ≤ S.2 ∧ S.2 ≤ N0) := hidI ⟨hq0, hq1⟩
          clear hR hq0 hq1 hne hne2 HT HB
          go_loopw [51] (fun i w' => ∃ j : Nat, (j : Int) ≤ nn ∧ i = .int .i64 (j : Int) ∧ Hid (∃ N' : Nat, (N' : Int) ≤ N0 + j ∧ 0 ≤ (doActs S (timesS ⟨2, th, nn⟩ j)).2 ∧ (doActs S (timesS ⟨2, th, nn⟩ j)).2 ≤ N' ∧
            RunAt w' (w.heap.size + 2) b w1.heap.size w2.heap.size (w2.heap.size + 1) (doActs S (timesS ⟨2, th, nn⟩ j)).1 (doActs S (timesS ⟨2, th, nn⟩ j)).2 N' [w3.heap.size, w2.heap.size + 1, w2.heap.size, w1.heap.size, w.heap.size + 1]) ∧
            Hid (w'.heap[w3.heap.size]? = some (.cells (encPk ⟨2, th, nn⟩).toArray 134 (0, 0))) ∧ Hid (w'.heap[w.heap.size + 1]? = some (.cells #[.slice none 0 0, .slice none 0 0, .int .i64 0] 137 (0, 0))) ∧ Hid (Below w.heap.size w w')) (fun i _ => nn.toNat - (intOf i).toNat)
          case atStart => exact ⟨0, hn0, rfl, ⟨N0, by simp, by simpa [timesS, doActs] using HSN.out.1, by simpa [timesS, doActs] using HSN.out.2, HA0.out⟩, HPB, HTa, HBa⟩
          case round =>
            clear HPB HTa HBa HA0
            obtain ⟨j, hj, rfl, HR, HPB, HT, HB⟩ := hrel
            by_cases hlt2 : (j : Int) < nn
            · obtain ⟨N1, hN1, h0, h1, hR⟩ := HR.out
              have HRR := hidI hR
              have H0 := hidI h0
              have H1 := hidI h1
              have HN1 := hidI hN1
              clear HR hR h0 h1 hN1
              go_wp2_with fail
              refine (run4 HRR.out HPB.out (by simp) HNE.out (by have := HN1.out; have := HNN.out; have := HNL.out; omega) ⟨H0.out, by have := H1.out; have := HN1.out; have := HNN.out; have := HNL.out; omega⟩ rfl).mono ?_
              rintro e w4 ⟨rfl, hr4, hst, hb4⟩
              have hsn : doActs S (timesS ⟨2, th, nn⟩ (j + 1)) = doActs (doActs S (timesS ⟨2, th, nn⟩ j)) (onceS ⟨2, th, nn⟩) := by rw [timesS, doActs_app]
              rw [show ((doActs S (timesS ⟨2, th, nn⟩ j)).1, (doActs S (timesS ⟨2, th, nn⟩ j)).2) = doActs S (timesS ⟨2, th, nn⟩ j) from rfl, ← hsn] at hr4
              have hstp := once_steps (doActs S (timesS ⟨2, th, nn⟩ j)) ⟨2, th, nn⟩
              rw [← hsn] at hstp
              have HR4 := hidI hr4
              have HST := hidI hstp
              have HPB4 := hidI ((hst w3.heap.size (by simp) HNE.out).trans HPB.out)
              have HT4 := hidI ((hst (w.heap.size + 1) (by simp) HNE2.out).trans HT.out)
              have HB4 := hidI (HB.out.trans (hb4.mono (by omega)))
              clear hr4 hst hb4 hsn hstp
              go_wp2_with fail
              exact ⟨⟨j + 1, by omega, by go_num, ⟨N1 + 1, by have := HN1.out; omega, by have := H0.out; have := HST.out; omega, by have := H1.out; have := HST.out; omega, HR4.out⟩, HPB4, HT4, HB4⟩, by simp [intOf]; omega⟩
            · have hjn : nn.toNat = j := by omega
              go_wp2_with fail
              obtain ⟨N1, hN1, h0, h1, hR⟩ := HR.out
              have hfin : doActs (newM mem (l.map (·.2)) cs, 0) (actsS (sc.take (k + 1))) = doActs S (timesS ⟨2, th, nn⟩ j) := by
                rw [take_snoc HX.out, actsS_snoc, doActs_app, HSEQ.out]
                simp only [pickS]
                rw [hjn]
              exact ⟨⟨k + 1, by omega, by go_num, ⟨N1, by rw [take_snoc HX.out, total_snoc]; have := HNN.out; have := HPL.out; omega, by rw [hfin]; exact h0, by rw [hfin]; exact h1, by rw [hfin]; exact hR.less (fun q hq => by simp at hq; simp [hq]) (by simp) (by simp) (by simp)⟩, HT, HB⟩, by simp [intOf]; omega⟩
        · have hkb2 : (kk == 2) = false := by simpa using hk2
          go_wp2_with fail
          have hpb := block_new w3 (.cells (encPk ⟨kk, th, nn⟩).toArray 134)
          have HPB := hidI hpb
          clear hpb
          have HA0 := hidI (hR.addBox (.cells (encPk ⟨kk, th, nn⟩).toArray 134))
          have HTa := hidI (block_alloc (o := .cells (encPk ⟨kk, th, nn⟩).toArray 134) HT.out)
          have HBa := hidI (HB.out.alloc HB.out.size (.cells (encPk ⟨kk, th, nn⟩).toArray 134))
          have hne : w3.heap.size ≠ w2.heap.size := by have := lt_of_block hR.s; omega
          have hne2 : w.heap.size + 1 ≠ w2.heap.size := by have := hR.lo; omega
          have HNE := hidI hne
          have HNE2 := hidI hne2
          have HSN : Hid (0 ≤ S.2 ∧ S.2 ≤ N0) := hidI ⟨hq0, hq1⟩
          clear hR hq0 hq1 hne hne2 HT HB
          go_loopw [51] (fun i w' => ∃ j : Nat, (j : Int) ≤ nn ∧ i = .int .i64 (j : Int) ∧ Hid (∃ N' : Nat, (N' : Int) ≤ N0 + j ∧ 0 ≤ (doActs S (timesS ⟨kk, th, nn⟩ j)).2 ∧ (doActs S (timesS ⟨kk, th, nn⟩ j)).2 ≤ N' ∧
            RunAt w' (w.heap.size + 2) b w1.heap.size w2.heap.size (w2.heap.size + 1) (doActs S (timesS ⟨kk, th, nn⟩ j)).1 (doActs S (timesS ⟨kk, th, nn⟩ j)).2 N' [w3.heap.size, w2.heap.size + 1, w2.heap.size, w1.heap.size, w.heap.size + 1]) ∧
            Hid (w'.heap[w3.heap.size]? = some (.cells (encPk ⟨kk, th, nn⟩).toArray 134 (0, 0))) ∧ Hid (w'.heap[w.heap.size + 1]? = some (.cells #[.slice none 0 0, .slice none 0 0, .int .i64 0] 137 (0, 0))) ∧ Hid (Below w.heap.size w w')) (fun i _ => nn.toNat - (intOf i).toNat)
          case atStart => exact ⟨0, hn0, rfl, ⟨N0, by simp, by simpa [timesS, doActs] using HSN.out.1, by simpa [timesS, doActs] using HSN.out.2, HA0.out⟩, HPB, HTa, HBa⟩
          case round =>
            clear HPB HTa HBa HA0
            obtain ⟨j, hj, rfl, HR, HPB, HT, HB⟩ := hrel
            by_cases hlt2 : (j : Int) < nn
            · obtain ⟨N1, hN1, h0, h1, hR⟩ := HR.out
              have HRR := hidI hR
              have H0 := hidI h0
              have H1 := hidI h1
              have HN1 := hidI hN1
              clear HR hR h0 h1 hN1
              go_wp2_with fail
              refine (run2 HRR.out HPB.out (by have := HN1.out; have := HNN.out; have := HNL.out; omega) ⟨H0.out, by have := H1.out; have := HN1.out; have := HNN.out; have := HNL.out; omega⟩ ⟨hk1, hk2⟩).mono ?_
              rintro e w4 ⟨rfl, hr4, hst, hb4⟩
              have hsn : doActs S (timesS ⟨kk, th, nn⟩ (j + 1)) = doActs (doActs S (timesS ⟨kk, th, nn⟩ j)) (onceS ⟨kk, th, nn⟩) := by rw [timesS, doActs_app]
              rw [show ((doActs S (timesS ⟨kk, th, nn⟩ j)).1, (doActs S (timesS ⟨kk, th, nn⟩ j)).2) = doActs S (timesS ⟨kk, th, nn⟩ j) from rfl, ← hsn] at hr4
              have hstp := once_steps (doActs S (timesS ⟨kk, th, nn⟩ j)) ⟨kk, th, nn⟩
              rw [← hsn] at hstp
              have HR4 := hidI hr4
              have HST := hidI hstp
              have HPB4 := hidI ((hst w3.heap.size (by simp) HNE.out).trans HPB.out)
              have HT4 := hidI ((hst (w.heap.size + 1) (by simp) HNE2.out).trans HT.out)
              have HB4 := hidI (HB.out.trans (hb4.mono (by omega)))
              clear hr4 hst hb4 hsn hstp
              go_wp2_with fail
              exact ⟨⟨j + 1, by omega, by go_num, ⟨N1 + 1, by have := HN1.out; omega, by have := H0.out; have := HST.out; omega, by have := H1.out; have := HST.out; omega, HR4.out⟩, HPB4, HT4, HB4⟩, by simp [intOf]; omega⟩
            · have hjn : nn.toNat = j := by omega
              go_wp2_with fail
              obtain ⟨N1, hN1, h0, h1, hR⟩ := HR.out
              have hfin : doActs (newM mem (l.map (·.2)) cs, 0) (actsS (sc.take (k + 1))) = doActs S (timesS ⟨kk, th, nn⟩ j) := by
                rw [take_snoc HX.out, actsS_snoc, doActs_app, HSEQ.out]
                simp only [pickS]
                rw [hjn]
              exact ⟨⟨k + 1, by omega, by go_num, ⟨N1, by rw [take_snoc HX.out, total_snoc]; have := HNN.out; have := HPL.out; omega, by rw [hfin]; exact h0, by rw [hfin]; exact h1, by rw [hfin]; exact hR.less (fun q hq => by simp at hq; simp [hq]) (by simp) (by simp) (by simp)⟩, HT, HB⟩, by simp [intOf]; omega⟩
    · obtain rfl : k = sc.length := by omega
      obtain ⟨N1, hN1, h0, h1, hR⟩ := HR.out
      rw [List.take_length] at hN1 h0 h1 hR
      have hN2 : N1 ≤ 1048576 := by have := HLN.out.2.2.1; omega
      obtain ⟨S, hS⟩ : ∃ S, S = doActs (newM mem (l.map (·.2)) cs, 0) (actsS sc) := ⟨_, rfl⟩
      rw [← hS] at h0 h1 hR
      have cx : wr.cell? ⟨w1.heap.size, 0, none⟩ = some (.pointer (some ⟨b, 0, none⟩)) := cell_of_block hR.x rfl
      have cs0 : wr.cell? ⟨w2.heap.size, 0, none⟩ = some (.int .i64 S.2) := cell_of_block hR.s rfl
      have hbx' := lt_of_block hR.x
      have hbs' := lt_of_block hR.s
      have hns : w2.heap.size ≠ w.heap.size + 1 := by have := hR.lo; omega
      have hnx : w1.heap.size ≠ w.heap.size + 1 := by have := HNX.out; omega
      have HRR := hidI hR
      have HSS := hidI hS
      have HNN := hidI hN2
      have HH0 := hidI h0
      have HH1 := hidI h1
      obtain ⟨w3, rfl⟩ : ∃ q, q = wr := ⟨_, rfl⟩
      clear hN1 h0 h1 hR hS hN2 HR
      go_wp2_with fail
      go_region_held3 (fun w' => w'.cell? ⟨w1.heap.size, 0, none⟩ = some (.pointer (some ⟨b, 0, none⟩)) ∧ w'.cell? ⟨w2.heap.size, 0, none⟩ = some (.int .i64 S.2)) (refine ⟨?_, ?_⟩ <;> first | assumption | (simp only [World.cell?_drew]; assumption) | exact cell_other3 cx5 hnx _ _ _ | exact cell_other3 cs5 hns _ _ _) (first | (go_at_call 199; refine (seen_own (HRR.out.mach.below (Below.refl w3.heap.size w3).drew).live (by have := HNN.out; omega)).mono ?_; rintro e w4 ⟨ls, rfl, hsa, hse, hsp, hms, hb4⟩; have cx4 := (World.cell?_of_block (hb4.block _ hbx')).trans cx; have cs4 := (World.cell?_of_block (hb4.block _ hbs')).trans cs0; have HSA := hidI hsa; have HSE := hidI hse; have HSP := hidI hsp; have HMS := hidI hms; have HB4 := hidI hb4; clear hsa hse hsp hms hb4; dsimp only) | (go_at_call 200; refine (events_p (HRR.out.mach.below ((Below.refl w3.heap.size w3).drew.trans HB4.out)) (by have := HNN.out; omega)).mono ?_; rintro e w5 ⟨ve, rfl, hoe, hb5⟩; obtain ⟨veo, vec, rfl⟩ := ownsRow_shape hoe; have cx5 := (World.cell?_of_block (hb5.block w1.heap.size (by have h9 : w3.heap.size ≤ w4.heap.size := HB4.out.size; omega))).trans cx4; have cs5 := (World.cell?_of_block (hb5.block w2.heap.size (by have h9 : w3.heap.size ≤ w4.heap.size := HB4.out.size; omega))).trans cs4; have hbr := blk hb5 (blk HB4.out (show w3.drew.heap[w.heap.size + 1]? = _ from HT.out)); have fr0 := free_of_block (o := 0) hbr; have fr1 := free_of_block (o := 1) hbr; have fr2 := free_of_block (o := 2) hbr; have rr0 := cell_of_block (o := 0) hbr rfl; have rr1 := cell_of_block (o := 1) hbr rfl; have rr2 := cell_of_block (o := 2) hbr rfl; have HBR := hidI hbr; have HOE := hidI hoe; have HB5 := hidI hb5; clear hbr hoe hb5; dsimp only))
      go_wp2_with fail
      have hb35 : Below w3.heap.size w3 w5 := (Below.refl w3.heap.size w3).drew.trans (HB4.out.trans (HB5.out.mono HB4.out.size))
      have hw35 := hb35.size
      have h4s : w3.heap.size ≤ w4.heap.size := HB4.out.size
      have hwl : w.heap.size + 1 < w3.heap.size := lt_of_block HT.out
      have hq : ∀ g, g ≠ w.heap.size + 1 → (((w5.setCell ⟨w.heap.size + 1, 0, none⟩ (.slice (some ⟨w3.heap.size, 0, none⟩) ls.length ls.length)).setCell ⟨w.heap.size + 1, 1, none⟩ (.slice veo S.1.evs.length vec)).setCell ⟨w.heap.size + 1, 2, none⟩ (.int .i64 S.2)).heap[g]? = w5.heap[g]? := fun g hg => ((Below.heap_setCell _ _ _ _ hg).trans (Below.heap_setCell _ _ _ _ hg)).trans (Below.heap_setCell _ _ _ _ hg)
      have hr3 := block_setCell (o := 2) (.int .i64 S.2) (block_setCell (o := 1) (.slice veo S.1.evs.length vec) (block_setCell (o := 0) (.slice (some ⟨w3.heap.size, 0, none⟩) ls.length ls.length) HBR.out))
      refine bodyPost_ret (v := .tuple #[.agg #[.slice (some ⟨w3.heap.size, 0, none⟩) ls.length ls.length, .slice veo S.1.evs.length vec, .int .i64 S.2], .int .i64 0]) ?_ rfl ?_
      · have c0 := cell_of_block (o := 0) hr3 rfl
        have c1 := cell_of_block (o := 1) hr3 rfl
        have c2 := cell_of_block (o := 2) hr3 rfl
        simp [results, Tryz.results125, go_sem, c0, c1, c2]
      · rw [← HSS.out]
        have hdrew : w3.drew.heap.size = w3.heap.size := rfl
        refine ⟨w3.heap.size, ls, veo, vec, rfl, ?_, fun s hs => ⟨?_, fun g hg => (HSE.out s hs).2 g hg⟩, HSP.out, HMS.out, ?_, fun g hg => ⟨?_, fun s hs hg2 => ?_⟩, ?_⟩
        · exact ownsRow_mono (ownRow_keep HSA.out fun g hg hl => (hq g (by have := (rowLt HSA.out hg).1; omega)).trans (HB5.out.block g hl)) (by omega)
        · exact ownsRow_mono (ownRow_keep (HSE.out s hs).1 fun g hg hl => (hq g (by have := (HSE.out s hs).2 g hg; omega)).trans (HB5.out.block g hl)) (by omega)
        · exact ownsRow_mono (ownRow_keep HOE.out fun g hg hl => hq g (by have := (rowLt HOE.out hg).1; omega)) (by omega)
        · have h1 := (rowLt HOE.out hg).1
          have h2 : w3.heap.size < w4.heap.size := (rowLt HSA.out rfl).2
          omega
        · have h1 := (rowLt HOE.out hg).1
          have h2 := (rowLt (HSE.out s hs).1 hg2).2
          omega
        · exact (((HB.out.trans (hb35.mono HB.out.size)).setCell (by simp) _).setCell (by simp) _).setCell (by simp) _
end
end Go.Proofs.YtgodmogkhgilmaaGreatDoor

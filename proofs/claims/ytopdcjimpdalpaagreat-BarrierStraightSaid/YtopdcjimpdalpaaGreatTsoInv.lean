/- Package tso: what holds of every machine that New made, in plain Lean; and what steps keep. -/
import Derived.Test.YtopdcjimpdalpaaGreatTsoD
namespace Go.Proofs.YtopdcjimpdalpaaGreat
open Go.RowKit
set_option linter.unusedVariables false
set_option linter.unusedSimpArgs false

/-- N: so many steps at most have been made; L: the memory's length -/
structure ThOk (N L : Nat) (t : MT) : Prop where
  len : t.code.length ≤ 262144
  ops : ∀ o ∈ t.code, OpOk o
  wait : ∀ c ∈ t.wait, 0 ≤ c.1 ∧ c.1 < (L : Int)
  full : t.wait.length ≤ 64
  at_ : 0 ≤ t.at_ ∧ t.at_ ≤ 262144
  out : t.out.length ≤ N
structure MOk (N : Nat) (m : MM) : Prop where
  mem : 1 ≤ m.mem.length ∧ m.mem.length ≤ 262144
  four : m.ths.length ≤ 4
  evs : m.evs.length ≤ N
  th : ∀ t ∈ m.ths, ThOk N m.mem.length t

theorem ThOk.mono {N N' L : Nat} {t : MT} (h : ThOk N L t) (hn : N ≤ N') : ThOk N' L t := ⟨h.len, h.ops, h.wait, h.full, h.at_, Nat.le_trans h.out hn⟩
theorem MOk.mono {N N' : Nat} {m : MM} (h : MOk N m) (hn : N ≤ N') : MOk N' m := ⟨h.mem, h.four, Nat.le_trans h.evs hn, fun t ht => (h.th t ht).mono hn⟩
theorem MOk.put {N : Nat} {m : MM} (h : MOk N m) {n : Nat} {t : MT} (ht : ThOk N m.mem.length t) : MOk N (m.put n t) :=
  ⟨h.mem, by simpa [MM.put] using h.four, h.evs, fun u hu => by
    rcases List.mem_or_eq_of_mem_set hu with e | e
    · exact h.th u e
    · exact e ▸ ht⟩
theorem MOk.tell {N : Nat} {m : MM} (h : MOk N m) (n : Nat) (k a b : Int) : MOk (N + 1) (m.tell n k a b) :=
  ⟨h.mem, h.four, by have := h.evs; simp [MM.tell]; omega, fun t ht => (h.th t ht).mono (by omega)⟩
theorem MOk.stop {N : Nat} {m : MM} (h : MOk N m) {n : Nat} {t : MT} (ht : ThOk N m.mem.length t) (k : Int) : MOk (N + 1) (m.stop n t k) :=
  (h.put (n := n) (t := { t with fin := k }) ⟨ht.len, ht.ops, ht.wait, ht.full, ht.at_, ht.out⟩).tell n _ _ _
theorem MOk.mem_ {N : Nat} {m : MM} (h : MOk N m) {l : List Int} (hl : l.length = m.mem.length) : MOk N { m with mem := l } :=
  ⟨by rw [show ({ m with mem := l } : MM).mem.length = m.mem.length from hl]; exact h.mem, h.four, h.evs, fun t ht => by rw [show ({ m with mem := l } : MM).mem.length = m.mem.length from hl]; exact h.th t ht⟩

/-- what an instruction does is one of these -/
theorem act_cases (m : MM) (n : Nat) (t : MT) (o : OpD) (a : Int) (P : MM → Prop) (a1 : ∀ i v, P (m.put n (t.goes i v))) (a2 : ∀ k, P (m.stop n t k)) (a5 : o.kind = 5 → P (m.put n { t.next with wait := t.wait ++ [(a, t.r o.b)] }))
    (a6 : o.kind = 6 ∨ o.kind = 7 → P (m.put n { t with at_ := o.n })) (a10 : P (m.put n t.next)) (a8 : ∀ l i v, l.length = m.mem.length → o.kind = 8 ∨ o.kind = 9 → P (({ m with mem := l } : MM).put n (t.goes i v)))
    (a11 : P ((m.put n { t.next with out := t.out ++ [t.r o.a] }).tell n 9 (t.r o.a) 0)) (a12 : ∀ k x y, P ((m.put n t.next).tell n k x y)) (a15 : ∀ i v, P ((m.put n (t.goes i v)).tell n 1 v 0)) (a0 : P m) : P (m.act n t o a) := by
  unfold MM.act
  by_cases k1 : o.kind = 1
  · rw [if_pos k1]
    exact a1 _ _
  rw [if_neg k1]
  by_cases k2 : o.kind = 2
  · rw [if_pos k2]
    exact a1 _ _
  rw [if_neg k2]
  by_cases k3 : o.kind = 3
  · rw [if_pos k3]
    cases calcS o.cal (t.r o.a) (t.r o.b) with
    | none => exact a2 _
    | some v => exact a1 _ _
  rw [if_neg k3]
  by_cases k4 : o.kind = 4
  · rw [if_pos k4]
    exact a1 _ _
  rw [if_neg k4]
  by_cases k5 : o.kind = 5
  · rw [if_pos k5]
    exact a5 k5
  rw [if_neg k5]
  by_cases k6 : o.kind = 6
  · rw [if_pos k6]
    exact a6 (.inl k6)
  rw [if_neg k6]
  by_cases k7 : o.kind = 7
  · rw [if_pos k7]
    by_cases z : t.r o.a = 0
    · simp only [z, if_true]; exact a6 (.inr k7)
    · simp only [z, if_false]; exact a10
  rw [if_neg k7]
  by_cases k8 : o.kind = 8
  · rw [if_pos k8]
    exact a8 _ _ _ (by by_cases z : m.at a = t.r o.b <;> simp [z]) (.inl k8)
  rw [if_neg k8]
  by_cases k9 : o.kind = 9
  · rw [if_pos k9]
    exact a8 _ _ _ (by simp) (.inr k9)
  rw [if_neg k9]
  by_cases k10 : o.kind = 10
  · rw [if_pos k10]
    exact a10
  rw [if_neg k10]
  by_cases k11 : o.kind = 11
  · rw [if_pos k11]
    exact a11
  rw [if_neg k11]
  by_cases k12 : o.kind = 12
  · rw [if_pos k12]
    exact a12 _ _ _
  rw [if_neg k12]
  by_cases k13 : o.kind = 13
  · rw [if_pos k13]
    exact a2 _
  rw [if_neg k13]
  by_cases k14 : o.kind = 14
  · rw [if_pos k14]
    exact a2 _
  rw [if_neg k14]
  by_cases k15 : o.kind = 15
  · rw [if_pos k15]
    exact a15 _ _
  rw [if_neg k15]
  exact a0
theorem MOk.act {N : Nat} {m : MM} (h : MOk N m) {n : Nat} {t : MT} {o : OpD} {a : Int} (ht : ThOk N m.mem.length t) (ho : OpOk o) (hc : t.at_ < 262144) (ha : o.kind = 5 → m.has a = true) (hf : o.kind = 5 → t.wait.length < 64) : MOk (N + 1) (m.act n t o a) := by
  have hg : ∀ i v, ThOk N m.mem.length (t.goes i v) := fun i v => ⟨ht.len, ht.ops, ht.wait, ht.full, by have := ht.at_; simp only [MT.goes]; omega, ht.out⟩
  have hx : ∀ {l : List Int}, l.length = m.mem.length → ∀ u, ThOk N m.mem.length u → MOk (N + 1) (({ m with mem := l } : MM).put n u) := fun hl u hu => ((h.mem_ hl).put (by rw [show ({ m with mem := _ } : MM).mem.length = m.mem.length from hl]; exact hu)).mono (by omega)
  have hnx : ThOk N m.mem.length t.next := ⟨ht.len, ht.ops, ht.wait, ht.full, by have := ht.at_; simp only [MT.next]; omega, ht.out⟩
  have hj : ∀ j, 0 ≤ j ∧ j ≤ 262144 → ThOk N m.mem.length { t with at_ := j } := fun j hj => ⟨ht.len, ht.ops, ht.wait, ht.full, hj, ht.out⟩
  refine act_cases m n t o a (MOk (N + 1)) (fun i v => (h.put (hg i v)).mono (by omega)) (fun k => h.stop ht k) (fun hk => ?_) (fun hk => (h.put (hj _ (ho.jump hk))).mono (by omega)) ((h.put hnx).mono (by omega))
    (fun l i v hl _ => hx hl _ (hg i v)) ?_ (fun k x y => (h.put hnx).tell _ _ _ _) (fun i v => (h.put (hg i v)).tell _ _ _ _) (h.mono (by omega))
  · have ha' := has_iff.1 (ha hk)
    have hf' := hf hk
    refine MOk.mono (N := N) (h.put (n := n) (t := { t.next with wait := t.wait ++ [(a, t.r o.b)] }) ⟨ht.len, ht.ops, fun c hc => ?_, ?_, hnx.at_, ht.out⟩) (by omega)
    · rcases List.mem_append.1 hc with e | e
      · exact ht.wait c e
      · rw [List.mem_singleton.1 e]; exact ha'
    · simp; omega
  · refine ⟨h.mem, by simpa [MM.put, MM.tell] using h.four, by have := h.evs; simp [MM.put, MM.tell]; omega, fun u hu => ?_⟩
    rcases List.mem_or_eq_of_mem_set hu with e | e
    · exact (h.th u e).mono (by omega)
    · subst e
      exact ⟨ht.len, ht.ops, ht.wait, ht.full, hnx.at_, by have := ht.out; simp; omega⟩

theorem thr_mem {m : MM} {z : Int} {t : MT} (h : m.thr z = some t) : 0 ≤ z ∧ m.ths[z.toNat]? = some t := by
  unfold MM.thr at h
  split at h
  · cases h
  · exact ⟨by omega, h⟩
theorem MOk.go {N : Nat} {m : MM} (h : MOk N m) {n : Nat} {t : MT} (ht : ThOk N m.mem.length t) : MOk (N + 1) (m.go n t).2 := by
  unfold MM.go
  split
  · exact h.stop ht _
  · rename_i o ho
    have ho' : t.code[t.at_.toNat]? = some o := by split at ho <;> first | exact ho | cases ho
    have hl := (List.getElem?_eq_some_iff.1 ho').1
    have hok := ht.ops o (List.mem_of_getElem? ho')
    have hlen := ht.len
    have h0 := ht.at_
    have hw5 : o.kind = 5 → ¬ t.waits o = true → t.wait.length < 64 := fun hk hw => by
      unfold MT.waits at hw
      rw [if_pos hk] at hw
      simpa using hw
    split
    · rename_i hwd
      split
      · exact h.mono (by omega)
      · rename_i hw
        refine h.act ht hok (by omega) (fun hk => ?_) (fun hk => hw5 hk hw)
        unfold MT.word at hwd
        rw [if_neg (by omega), if_pos (by omega)] at hwd
        cases hwd
    · split
      · rename_i hh
        split
        · exact h.mono (by omega)
        · rename_i hw
          exact h.act ht hok (by omega) (fun _ => hh) (fun hk => hw5 hk hw)
      · exact h.stop ht _
theorem MOk.step {N : Nat} {m : MM} (h : MOk N m) (z : Int) : MOk (N + 1) (m.step z).2 := by
  unfold MM.step
  split
  · exact h.mono (by omega)
  · rename_i t ht
    split
    · exact h.mono (by omega)
    · exact h.go (h.th t (List.mem_of_getElem? (thr_mem ht).2))
theorem MOk.flush {N : Nat} {m : MM} (h : MOk N m) (z : Int) : MOk N (m.flush z).2 := by
  unfold MM.flush
  split
  · exact h
  · rename_i t ht
    have hk := h.th t (List.mem_of_getElem? (thr_mem ht).2)
    split
    · exact h
    · rename_i c r hr
      have hl : ({ m with mem := m.mem.set c.1.toNat c.2 } : MM).mem.length = m.mem.length := by simp
      refine (h.mem_ (l := m.mem.set c.1.toNat c.2) (by simp)).put ?_
      rw [hl]
      exact ⟨hk.len, hk.ops, fun d hd => hk.wait d (by rw [hr]; exact List.mem_cons_of_mem _ hd), by have := hk.full; rw [hr] at this; simp at this ⊢; omega, hk.at_, hk.out⟩
theorem step_ths (m : MM) (z : Int) : (m.step z).2.ths.length = m.ths.length := by
  unfold MM.step
  split
  · rfl
  · split
    · rfl
    · have hs : ∀ n t k, (m.stop n t k).ths.length = m.ths.length := fun n t k => by simp [MM.stop, MM.tell, MM.put]
      have ha : ∀ n t o a, (m.act n t o a).ths.length = m.ths.length := fun n t o a => 
        act_cases m n t o a (fun q => q.ths.length = m.ths.length) (fun i v => by simp [MM.put]) (fun k => hs _ _ _) (fun _ => by simp [MM.put]) (fun _ => by simp [MM.put]) (by simp [MM.put]) (fun l i v hl _ => by simp [MM.put, hl]) (by simp [MM.put, MM.tell]) (fun k x y => by simp [MM.put, MM.tell]) (fun i v => by simp [MM.put, MM.tell]) rfl
      unfold MM.go
      repeat' split
      all_goals first | exact hs _ _ _ | exact ha _ _ _ _ | rfl
theorem flush_ths (m : MM) (z : Int) : (m.flush z).2.ths.length = m.ths.length := by
  unfold MM.flush
  repeat' split
  all_goals simp [MM.put]
theorem step_mem (m : MM) (z : Int) : (m.step z).2.mem.length = m.mem.length := by
  unfold MM.step
  split
  · rfl
  · split
    · rfl
    · have hs : ∀ n t k, (m.stop n t k).mem.length = m.mem.length := fun n t k => by simp [MM.stop, MM.tell, MM.put]
      have ha : ∀ n t o a, (m.act n t o a).mem.length = m.mem.length := fun n t o a => 
        act_cases m n t o a (fun q => q.mem.length = m.mem.length) (fun i v => by simp [MM.put]) (fun k => hs _ _ _) (fun _ => by simp [MM.put]) (fun _ => by simp [MM.put]) (by simp [MM.put]) (fun l i v hl _ => by simp [MM.put, hl]) (by simp [MM.put, MM.tell]) (fun k x y => by simp [MM.put, MM.tell]) (fun i v => by simp [MM.put, MM.tell]) rfl
      unfold MM.go
      repeat' split
      all_goals first | exact hs _ _ _ | exact ha _ _ _ _ | rfl
theorem flush_mem (m : MM) (z : Int) : (m.flush z).2.mem.length = m.mem.length := by
  unfold MM.flush
  repeat' split
  all_goals simp [MM.put]
end Go.Proofs.YtopdcjimpdalpaaGreat

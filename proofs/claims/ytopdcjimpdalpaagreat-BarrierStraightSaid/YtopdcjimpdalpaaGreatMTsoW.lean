/- Put together by merge.py out of XTsoW.lean.tpl, XTsoZ.lean.tpl, XTsoY.lean.tpl, XTsoEv.lean.tpl, XTsoNa.lean.tpl, XTsoLaw.lean.tpl. -/
import Derived.Test.YtopdcjimpdalpaaGreatTsoV
import Derived.Laws.Rows
import Derived.Test.YtopdcjimpdalpaaGreatTsoU
import Derived.Test.YtopdcjimpdalpaaGreatTsoInv
namespace Go.Proofs.YtopdcjimpdalpaaGreat
open Go.RowKit
set_option linter.unusedVariables false
set_option linter.unusedSimpArgs false

section
variable {w w' : World} {base b : Nat}

def oSet (r n : Int) : OpD := ⟨1, 0, r, 0, 0, n⟩
def oStore (a b n : Int) : OpD := ⟨5, 0, a, b, 0, n⟩
def oLoad (a b n : Int) : OpD := ⟨4, 0, a, b, 0, n⟩
def livesOps : List OpD := [oSet 1 5, oStore 0 1 2, oLoad 2 0 2, ⟨10, 0, 0, 0, 0, 0⟩, ⟨14, 0, 0, 0, 0, 0⟩]
instance (o : OpD) : Decidable (wfOp o) := by unfold wfOp; exact inferInstance
/-- a code of one row, made of literals -/
theorem one_code (w : World) (l : List OpD) (hw : ∀ o ∈ l, wfOp o) : CodeAt ((w.alloc (.cells (l.flatMap encOp).toArray 107)).alloc (.cells #[.slice (some ⟨w.heap.size, 0, none⟩) l.length l.length] 57)) (.slice (some ⟨w.heap.size + 1, 0, none⟩) 1 1)
    [(.slice (some ⟨w.heap.size, 0, none⟩) l.length l.length, l)] := by
  have h1 := heap_alloc_new w (.cells (l.flatMap encOp).toArray 107)
  have h2 := heap_alloc_new (w.alloc (.cells (l.flatMap encOp).toArray 107)) (.cells #[.slice (some ⟨w.heap.size, 0, none⟩) l.length l.length] 57)
  have h3 := (heap_alloc_old (w.alloc (.cells (l.flatMap encOp).toArray 107)) (.cells #[.slice (some ⟨w.heap.size, 0, none⟩) l.length l.length] 57) (show w.heap.size < _ by simp)).trans h1
  rw [World.size_alloc] at h2
  refine ⟨⟨rfl, some ⟨w.heap.size + 1, 0, none⟩, 1, rfl, Nat.le_refl _, fun _ => ⟨_, _, rfl, lt_of_block h2, fun j u hj => ?_⟩⟩, fun p hp => ?_, fun p hp o ho => ?_⟩
  · rw [Nat.zero_add]
    exact cell_of_block h2 (by simpa [encC] using hj)
  · rw [List.mem_singleton.1 hp]
    exact ⟨flat_len encOp_len l, some ⟨w.heap.size, 0, none⟩, l.length, rfl, Nat.le_refl _, fun _ => ⟨_, _, rfl, lt_of_block h3, fun j u hj => by
      rw [Nat.zero_add]
      exact cell_of_block h3 (by rw [List.getElem?_toArray]; exact hj)⟩⟩
  · rw [List.mem_singleton.1 hp] at ho
    exact hw o ho

def lm0 : MM := newM 4 [livesOps] []
def lm1 : MM := (lm0.step 0).2
def lm2 : MM := (lm1.step 0).2
def lm3 : MM := (lm2.step 0).2
def lm4 : MM := (lm3.step 0).2
def lm5 : MM := (lm4.flush 0).2
def lm6 : MM := (lm5.flush 0).2
def lm7 : MM := (lm6.step 0).2
def lm8 : MM := (lm7.step 0).2
theorem lmf0 : (lm0.step 0).1 = true := by kernel_rfl
theorem lmf1 : (lm1.step 0).1 = true := by kernel_rfl
theorem lmf2 : (lm2.step 0).1 = true := by kernel_rfl
theorem lmf3 : (lm3.step 0).1 = false := by kernel_rfl
theorem lmr : ∃ t, lm4.ths[0]? = some t ∧ t.reg 2 = 5 := by
  have h : (lm4.ths[0]?).map (fun t => t.reg 2) = some 5 := by kernel_rfl
  cases hq : lm4.ths[0]? with
  | none => rw [hq] at h; cases h
  | some t => rw [hq] at h; exact ⟨t, rfl, by simpa using h⟩
theorem lmw0 : (if lm4.has 2 = true then lm4.at 2 else 0) = 0 ∧ lm4.has 2 = true := ⟨by kernel_rfl, by kernel_rfl⟩
theorem lmf4 : (lm4.flush 0).1 = true := by kernel_rfl
theorem lmf5 : (lm5.flush 0).1 = false := by kernel_rfl
theorem lmf6 : (lm6.step 0).1 = true := by kernel_rfl
theorem lmf7 : (lm7.step 0).1 = true := by kernel_rfl
theorem lmw5 : (if lm8.has 2 = true then lm8.at 2 else 0) = 5 ∧ lm8.has 2 = true := ⟨by kernel_rfl, by kernel_rfl⟩
theorem lms : lm8.ths.map (fun t => (t.out, t.fin)) = [([], 1)] := by kernel_rfl
end

section
set_option maxHeartbeats 1000000 in
theorem sameWides_true {w : World} {ao bo : Option Addr} {ca cb : Nat} {l : List Int} (ha : RdT encI w 1 (.slice ao l.length ca) l) (hb : RdT encI w 1 (.slice bo l.length cb) l) (hm : l.length ≤ 9223372036854775807) :
    Calls Tryz.prog 25 #[.slice ao l.length ca, .slice bo l.length cb] w fun e w' => e = .returned (.bool true) ∧ Below w.heap.size w w' := by
  have HA := hidI ha
  have HB := hidI hb
  clear ha hb
  go_enter Tryz.func25, Tryz.ntmps25
  go_wp2
  go_loopw [13] (fun i wr => ∃ k n : Nat, k ≤ l.length ∧ i = .int .i64 k ∧ wr = w.drewN n) (fun i _ => l.length - (intOf i).toNat)
  case atStart => exact ⟨0, 0, Nat.zero_le _, rfl, rfl⟩
  case round =>
    obtain ⟨k, n, hk, rfl, rfl⟩ := hrel
    by_cases hlt : k < l.length
    · obtain ⟨x, hx⟩ := some_at hlt
      obtain ⟨b1, o1, rfl, hs1, hc1⟩ := HA.out.at encI_len hx
      obtain ⟨b2, o2, rfl, hs2, hc2⟩ := HB.out.at encI_len hx
      have x0 := hc1 0 _ rfl
      have y0 := hc2 0 _ rfl
      simp only [Nat.add_zero, Nat.mul_one] at x0 y0
      clear hc1 hc2 hx hs1 hs2
      go_wp2_with fail
      go_quiet (fail)
      go_wp2
      exact ⟨⟨k + 1, _, by omega, by go_num, rfl⟩, by simp [intOf]; omega⟩
    · obtain rfl : k = l.length := by omega
      go_wp2
      go_ret
      exact ⟨rfl, below_drewN (Below.refl _ _) n⟩
end

section
variable {w w' : World} {base b : Nat} {own own' : Nat → Nat} {mm : MM} {xs : List TX} {mv tv ev : Value}

/-- a machine: where it lies, whose the blocks are, what it is, how many steps at most are behind it -/
structure Mach where
  b : Nat
  own : Nat → Nat
  mm : MM
  N : Nat
def Hot (own : Nat → Nat) (k : Nat) : Prop := own k ≠ 0 ∧ ¬ (5 ≤ own k ∧ own k % 3 = 2)
def Mach.lies (w : World) (base : Nat) (m : Mach) : Prop := (∃ xs mv tv ev, MAt w base m.b m.own m.mm xs mv tv ev) ∧ MOk m.N m.mm
structure Fleet (w : World) (base : Nat) (l : List Mach) : Prop where
  each : ∀ m ∈ l, m.lies w base
  apart : ∀ (i j : Nat) m n, i ≠ j → l[i]? = some m → l[j]? = some n → ∀ k, n.own k ≠ 0 → ¬ Hot m.own k
  low : ∀ m ∈ l, ∀ k, m.own k ≠ 0 → base ≤ k
  here : base ≤ w.heap.size

theorem MAt.base_mono {base0 : Nat} (h : MAt w base b own mm xs mv tv ev) (hb : base0 ≤ base) : MAt w base0 b own mm xs mv tv ev :=
  ⟨h.blk, ⟨Nat.le_trans hb h.bT.1, h.bT.2⟩, ownsRow_mono h.mem hb, h.memT, ownsRow_mono h.ths hb, h.thsT, ownsRow_mono h.evs hb, h.evsT, h.same, fun i x hx => by
    have ht := h.th i x hx
    exact ⟨ht.code, fun g hn hg => ⟨Nat.le_trans hb (ht.codeT g hn hg).1, (ht.codeT g hn hg).2⟩, ht.ring, ⟨Nat.le_trans hb ht.ringT.1, ht.ringT.2⟩, ownsRow_mono ht.out hb, ht.outT⟩, h.fresh⟩

theorem Fleet.none (w : World) {base : Nat} (hb : base ≤ w.heap.size) : Fleet w base [] := ⟨fun m hm => absurd hm (by simp), fun i j m n _ hi => by simp at hi, fun m hm => absurd hm (by simp), hb⟩
theorem Fleet.below {l : List Mach} (h : Fleet w base l) (hb : Below w.heap.size w w') : Fleet w' base l :=
  ⟨fun m hm => by
    obtain ⟨⟨xs, mv, tv, ev, h1⟩, h2⟩ := h.each m hm
    exact ⟨⟨xs, mv, tv, ev, h1.below hb⟩, h2⟩, h.apart, h.low, Nat.le_trans h.here hb.size⟩
/-- a machine that was left alone -/
def MGoesKept (w w' : World) (base : Nat) (n : Mach) : Prop := n.lies w' base ∧ ∀ k, w.heap.size ≤ k → n.own k = 0
/-- a change of one machine -/
theorem Fleet.goes {l : List Mach} (h : Fleet w base l) {i : Nat} {m : Mach} (hi : l[i]? = some m) {mm' : MM} {N' : Nat} (hg : MGoes w base m.b m.own mm' w') (hk : MOk N' mm') : (∃ own', Fleet w' base (l.set i ⟨m.b, own', mm', N'⟩)) ∧ Below base w w' := by
  obtain ⟨⟨own', xs', mv', tv', ev', h', ho⟩, hc⟩ := hg
  have hm := List.mem_of_getElem? hi
  obtain ⟨⟨xs, mv, tv, ev, h1⟩, -⟩ := h.each m hm
  have hlt := (List.getElem?_eq_some_iff.1 hi).1
  have hlow' : ∀ k, own' k ≠ 0 → base ≤ k := fun k hn => by
    by_cases e : k < w.heap.size
    · exact h.low m hm k (by rw [← ho k e]; exact hn)
    · have := h.here; omega
  have hold : ∀ (j : Nat) n, l[j]? = some n → j ≠ i → MGoesKept w w' base n := fun j n hj hne => by
    obtain ⟨⟨xs2, mv2, tv2, ev2, h2⟩, hk2⟩ := h.each n (List.mem_of_getElem? hj)
    exact ⟨⟨⟨xs2, mv2, tv2, ev2, h2.chg hc (fun k hn => h.apart i j m n (Ne.symm hne) hi hj k hn)⟩, hk2⟩, fun k hk => h2.fresh k hk⟩
  have hget : ∀ (j : Nat) n, (l.set i ⟨m.b, own', mm', N'⟩)[j]? = some n → (j = i ∧ n = ⟨m.b, own', mm', N'⟩) ∨ (j ≠ i ∧ l[j]? = some n) := fun j n hj => by
    by_cases e : i = j
    · subst e
      rw [List.getElem?_set_self hlt] at hj
      exact .inl ⟨rfl, (Option.some.inj hj).symm⟩
    · rw [List.getElem?_set_ne e] at hj
      exact .inr ⟨fun q => e q.symm, hj⟩
  refine ⟨⟨own', fun n hn => ?_, fun j1 j2 n1 n2 hne h1' h2' k hk' => ?_, fun n hn k hk' => ?_, Nat.le_trans h.here hc.size⟩, hc.to_below h.here (fun k e => h.low m hm k e.1)⟩
  · obtain ⟨j, hj⟩ := List.getElem?_of_mem hn
    rcases hget j n hj with ⟨rfl, rfl⟩ | ⟨hne, hj'⟩
    · exact ⟨⟨xs', mv', tv', ev', h'⟩, hk⟩
    · exact (hold j n hj' hne).1
  · rcases hget j1 n1 h1' with ⟨rfl, rfl⟩ | ⟨hne1, hj1⟩
    · rcases hget j2 n2 h2' with ⟨rfl, -⟩ | ⟨hne2, hj2⟩
      · exact absurd rfl hne
      · by_cases e : k < w.heap.size
        · have := h.apart j1 j2 m n2 hne hi hj2 k hk'
          unfold Hot at this ⊢
          rw [show (Mach.own ⟨m.b, own', mm', N'⟩) k = m.own k from ho k e]
          exact this
        · exact absurd ((hold j2 n2 hj2 hne2).2 k (by omega)) hk'
    · rcases hget j2 n2 h2' with ⟨rfl, rfl⟩ | ⟨hne2, hj2⟩
      · by_cases e : k < w.heap.size
        · exact h.apart j1 j2 n1 m hne hj1 hi k (by rw [← ho k e]; exact hk')
        · intro hh
          exact hh.1 ((hold j1 n1 hj1 hne1).2 k (by omega))
      · exact h.apart j1 j2 n1 n2 hne hj1 hj2 k hk'
  · obtain ⟨j, hj⟩ := List.getElem?_of_mem hn
    rcases hget j n hj with ⟨rfl, rfl⟩ | ⟨hne, hj'⟩
    · exact hlow' k hk'
    · exact h.low n (List.mem_of_getElem? hj') k hk'

/-- one more machine, made of new memory alone -/
theorem Fleet.more {l : List Mach} (h : Fleet w base l) (hb : Below w.heap.size w w') {mm : MM} {N : Nat} (hm : MAt w' w.heap.size b own mm xs mv tv ev) (hk : MOk N mm) : ∃ own', Fleet w' base (l ++ [⟨b, own', mm, N⟩]) := by
  have h1 := h.below hb
  have h2 := hm.low.base_mono h.here
  have hn : ∀ k, lowT own w.heap.size k ≠ 0 → w.heap.size ≤ k := fun k hn => by
    rcases Nat.lt_or_ge k w.heap.size with e | e
    · exact absurd (if_pos e) hn
    · exact e
  have hf : ∀ n ∈ l, ∀ k, w.heap.size ≤ k → n.own k = 0 := fun n hn k hk => by
    obtain ⟨⟨xs2, mv2, tv2, ev2, h3⟩, -⟩ := h.each n hn
    exact h3.fresh k hk
  have hget : ∀ (j : Nat) n, (l ++ [(⟨b, lowT own w.heap.size, mm, N⟩ : Mach)])[j]? = some n → (j < l.length ∧ l[j]? = some n) ∨ (j = l.length ∧ n = ⟨b, lowT own w.heap.size, mm, N⟩) := fun j n hj => by
    rcases Nat.lt_or_ge j l.length with e | e
    · rw [List.getElem?_append_left e] at hj
      exact .inl ⟨e, hj⟩
    · rw [List.getElem?_append_right e] at hj
      have hl := (List.getElem?_eq_some_iff.1 hj).1
      simp only [List.length_singleton] at hl
      have : j - l.length = 0 := by omega
      rw [this] at hj
      simp at hj
      exact .inr ⟨by omega, hj.symm⟩
  refine ⟨lowT own w.heap.size, fun n hn' => ?_, fun j1 j2 n1 n2 hne hj1 hj2 k hk' => ?_, fun n hn' k hk' => ?_, Nat.le_trans h.here hb.size⟩
  · rcases List.mem_append.1 hn' with e | e
    · exact h1.each n e
    · rw [List.mem_singleton.1 e]
      exact ⟨⟨xs, mv, tv, ev, h2⟩, hk⟩
  · rcases hget j1 n1 hj1 with ⟨l1, e1⟩ | ⟨l1, rfl⟩
    · rcases hget j2 n2 hj2 with ⟨l2, e2⟩ | ⟨l2, rfl⟩
      · exact h.apart j1 j2 n1 n2 hne e1 e2 k hk'
      · exact fun hh => hh.1 (hf n1 (List.mem_of_getElem? e1) k (hn k hk'))
    · rcases hget j2 n2 hj2 with ⟨l2, e2⟩ | ⟨l2, rfl⟩
      · refine fun hh => ?_
        have := hn k hh.1
        exact hk' (hf n2 (List.mem_of_getElem? e2) k this)
      · omega
  · rcases List.mem_append.1 hn' with e | e
    · exact h.low n e k hk'
    · rw [List.mem_singleton.1 e] at hk'
      have := hn k hk'
      have := h.here
      omega

theorem step_f {l : List Mach} (h : Fleet w base l) {i : Nat} {m : Mach} (hi : l[i]? = some m) (hN : m.N < 1000000000) (z : Int) :
    Calls Tryz.prog 63 #[.pointer (some ⟨m.b, 0, none⟩), .int .i64 z] w fun r w' => r = .returned (.bool (m.mm.step z).1) ∧ (∃ own', Fleet w' base (l.set i ⟨m.b, own', (m.mm.step z).2, m.N + 1⟩)) ∧ Below base w w' := by
  obtain ⟨⟨xs, mv, tv, ev, hm⟩, hk⟩ := h.each m (List.mem_of_getElem? hi)
  refine (step_any hm hk hN z).mono ?_
  rintro r w' ⟨rfl, hg⟩
  exact ⟨rfl, h.goes hi hg (hk.step z)⟩
theorem flush_f {l : List Mach} (h : Fleet w base l) {i : Nat} {m : Mach} (hi : l[i]? = some m) (z : Int) :
    Calls Tryz.prog 66 #[.pointer (some ⟨m.b, 0, none⟩), .int .i64 z] w fun r w' => r = .returned (.bool (m.mm.flush z).1) ∧ (∃ own', Fleet w' base (l.set i ⟨m.b, own', (m.mm.flush z).2, m.N⟩)) ∧ Below base w w' := by
  obtain ⟨⟨xs, mv, tv, ev, hm⟩, hk⟩ := h.each m (List.mem_of_getElem? hi)
  refine (flush_any hm hk z).mono ?_
  rintro r w' ⟨rfl, hg⟩
  exact ⟨rfl, h.goes hi hg (hk.flush z)⟩
end

section
variable {w w' : World} {base b : Nat} {own own' : Nat → Nat} {mm : MM} {xs : List TX} {mv tv ev : Value}

set_option maxHeartbeats 1000000 in
theorem events_any (h : MAt w base b own mm xs mv tv ev) (hl : mm.evs.length ≤ 1000000000) :
    Calls Tryz.prog 69 #[.pointer (some ⟨b, 0, none⟩)] w (CloneRow 127 4 encEv mm.evs w) := by
  obtain ⟨ao, cp, rfl⟩ := ownsRow_shape h.evs
  have c3 := h.wcell 3 _ rfl
  have HR := hidI (Rd.of_own h.evs)
  have HL := hidI hl
  clear h hl
  go_enter Tryz.func69, Tryz.ntmps69
  go_wp2_with fail
  refine (cloneEvs_any HR.out HL.out).mono ?_
  rintro e w1 ⟨cv, rfl, ho, hb⟩
  have HO := hidI ho
  have HB := hidI hb
  clear ho hb
  go_wp2_with fail
  go_ret
  exact ⟨_, rfl, HO.out, HB.out⟩
end

section
variable {w w' : World} {base b : Nat}

/-- code out of a literal list of rows -/
theorem lit_code {g : Nat} {T : TypeId} {l : List (Value × List OpD)} (hg : w.heap[g]? = some (.cells (l.flatMap encC).toArray T (0, 0))) (he : ∀ p ∈ l, RdT encOp w 6 p.1 p.2) (hw : ∀ p ∈ l, ∀ o ∈ p.2, wfOp o) :
    CodeAt w (.slice (some ⟨g, 0, none⟩) l.length l.length) l :=
  ⟨⟨flat_len encC_len l, some ⟨g, 0, none⟩, l.length, rfl, Nat.le_refl _, fun _ => ⟨g, 0, rfl, lt_of_block hg, fun j u hj => by
    rw [Nat.zero_add]
    exact cell_of_block hg (by rw [List.getElem?_toArray]; exact hj)⟩⟩, he, hw⟩
/-- a row of literals -/
theorem lit_ops {g : Nat} {l : List OpD} (hg : w.heap[g]? = some (.cells (l.flatMap encOp).toArray 107 (0, 0))) : RdT encOp w 6 (.slice (some ⟨g, 0, none⟩) l.length l.length) l :=
  ⟨flat_len encOp_len l, some ⟨g, 0, none⟩, l.length, rfl, Nat.le_refl _, fun _ => ⟨g, 0, rfl, lt_of_block hg, fun j u hj => by
    rw [Nat.zero_add]
    exact cell_of_block hg (by rw [List.getElem?_toArray]; exact hj)⟩⟩
theorem seen_f {ms : List Mach} (hf : Fleet w base ms) {i : Nat} {m : Mach} (hi : ms[i]? = some m) (hN : m.N ≤ 1000000000) :
    Calls Tryz.prog 68 #[.pointer (some ⟨m.b, 0, none⟩)] w (SeenPost m.mm w) := by
  obtain ⟨⟨xs, mv, tv, ev, hm⟩, hk⟩ := hf.each m (List.mem_of_getElem? hi)
  exact seen_l (MLive.of hm hk) hN
theorem events_f {ms : List Mach} (hf : Fleet w base ms) {i : Nat} {m : Mach} (hi : ms[i]? = some m) (hN : m.N ≤ 1000000000) :
    Calls Tryz.prog 69 #[.pointer (some ⟨m.b, 0, none⟩)] w (CloneRow 127 4 encEv m.mm.evs w) := by
  obtain ⟨⟨xs, mv, tv, ev, hm⟩, hk⟩ := hf.each m (List.mem_of_getElem? hi)
  exact events_any hm (Nat.le_trans hk.evs hN)
end

section
/-- what a step does is an act, a stop, or nothing -/
theorem step_cases (m : MM) (z : Int) (P : Bool × MM → Prop) (h0 : P (false, m)) (h1 : ∀ t, m.thr z = some t → t.fin = 0 → P (true, m.stop z.toNat t 8))
    (h2 : ∀ t o a, m.thr z = some t → t.fin = 0 → 0 ≤ t.at_ → t.code[t.at_.toNat]? = some o → P (true, m.act z.toNat t o a)) : P (m.step z) := by
  unfold MM.step
  split
  · exact h0
  · rename_i t ht
    split
    · exact h0
    · rename_i hf
      have hf' : t.fin = 0 := by simpa using hf
      unfold MM.go
      split
      · exact h1 t ht hf'
      · rename_i o ho
        have h3 : 0 ≤ t.at_ ∧ t.code[t.at_.toNat]? = some o := by
          split at ho
          · cases ho
          · exact ⟨by omega, ho⟩
        split
        · split
          · exact h0
          · exact h2 t o 0 ht hf' h3.1 h3.2
        · split
          · split
            · exact h0
            · exact h2 t o _ ht hf' h3.1 h3.2
          · exact h1 t ht hf'
/-- no other thread is changed -/
theorem step_other (m : MM) (z : Int) {i : Nat} (hi : (i : Int) ≠ z) : (m.step z).2.ths[i]? = m.ths[i]? := by
  refine step_cases m z (fun q => q.2.ths[i]? = m.ths[i]?) rfl (fun t ht _ => ?_) (fun t o a ht _ _ _ => ?_)
  · have h0 := (thr_mem ht).1
    have hne : z.toNat ≠ i := by omega
    simp [MM.stop, MM.tell, MM.put, List.getElem?_set_ne hne]
  · have h0 := (thr_mem ht).1
    have hne : z.toNat ≠ i := by omega
    have hs : ∀ t' k, (m.stop z.toNat t' k).ths[i]? = m.ths[i]? := fun t' k => by simp [MM.stop, MM.tell, MM.put, List.getElem?_set_ne hne]
    exact act_cases m z.toNat t o a (fun q => q.ths[i]? = m.ths[i]?) (fun i v => by simp [MM.put, List.getElem?_set_ne hne]) (fun k => hs _ _) (fun _ => by simp [MM.put, List.getElem?_set_ne hne]) (fun _ => by simp [MM.put, List.getElem?_set_ne hne]) (by simp [MM.put, List.getElem?_set_ne hne])
      (fun l i v hl _ => by simp [MM.put, List.getElem?_set_ne hne]) (by simp [MM.put, MM.tell, List.getElem?_set_ne hne]) (fun k x y => by simp [MM.put, MM.tell, List.getElem?_set_ne hne]) (fun i v => by simp [MM.put, MM.tell, List.getElem?_set_ne hne]) rfl
/-- memory is changed by OpCas and OpXadd alone -/
theorem step_memory (m : MM) (z : Int) (h : ∀ t o, m.thr z = some t → 0 ≤ t.at_ → t.code[t.at_.toNat]? = some o → o.kind ≠ 8 ∧ o.kind ≠ 9) : (m.step z).2.mem = m.mem := by
  refine step_cases m z (fun q => q.2.mem = m.mem) rfl (fun t _ _ => by simp [MM.stop, MM.tell, MM.put]) (fun t o a ht _ h0 ho => ?_)
  have hk := h t o ht h0 ho
  exact act_cases m z.toNat t o a (fun q => q.mem = m.mem) (fun i v => by simp [MM.put]) (fun k => by simp [MM.stop, MM.tell, MM.put]) (fun _ => by simp [MM.put]) (fun _ => by simp [MM.put]) (by simp [MM.put])
    (fun l i v hl hk' => by omega) (by simp [MM.put, MM.tell]) (fun k x y => by simp [MM.put, MM.tell]) (fun i v => by simp [MM.put, MM.tell]) rfl
/-- a step that is none changes nothing -/
theorem step_false (m : MM) (z : Int) (h : (m.step z).1 = false) : (m.step z).2 = m := by
  revert h
  exact step_cases m z (fun q => q.1 = false → q.2 = m) (fun _ => rfl) (fun t _ _ h => by cases h) (fun t o a _ _ _ _ h => by cases h)
/-- what was told stays told -/
theorem step_events (m : MM) (z : Int) : m.evs <+: (m.step z).2.evs := by
  have hs : ∀ n t k, m.evs <+: (m.stop n t k).evs := fun n t k => by simp [MM.stop, MM.tell, MM.put]
  refine step_cases m z (fun q => m.evs <+: q.2.evs) (List.prefix_refl _) (fun t _ _ => hs _ _ _) (fun t o a _ _ _ _ => ?_)
  exact act_cases m z.toNat t o a (fun q => m.evs <+: q.evs) (fun i v => by simp [MM.put]) (fun k => hs _ _ _) (fun _ => by simp [MM.put]) (fun _ => by simp [MM.put]) (by simp [MM.put])
    (fun l i v hl _ => by simp [MM.put]) (by simp [MM.put, MM.tell]) (fun k x y => by simp [MM.put, MM.tell]) (fun i v => by simp [MM.put, MM.tell]) (List.prefix_refl _)
end

end Go.Proofs.YtopdcjimpdalpaaGreat

/- Part of the proof: TsoK, TsoH, TsoN, TsoO, TsoP, TsoQ, TsoS -/
import Derived.Test.YtgodmogkhgilmaaGreatDoorP28
import Derived.Test.YtgodmogkhgilmaaGreatDoorP29
import Derived.Test.YtgodmogkhgilmaaGreatDoorP30
import Derived.StillTailTactics
namespace Go.Proofs.YtgodmogkhgilmaaGreatDoor
open Go.RowKit
set_option linter.unusedVariables false
set_option linter.unusedSimpArgs false
set_option maxHeartbeats 2000000
set_option maxRecDepth 100000
section
variable {w w' : World} {base b : Nat} {own own' : Nat → Nat} {mm : MM} {xs : List TX} {mv tv ev : Value}
theorem ths_len {mm : MM} (h : mm.ths = xs.map TX.th) : mm.ths.length = xs.length := by rw [h]; simp
theorem thr_none (h : MAt w base b own mm xs mv tv ev) {z : Int} (hz : mm.thr z = none) : z < 0 ∨ (xs.length : Int) ≤ z := by
  unfold MM.thr at hz
  split at hz
  · exact .inl ‹_›
  · have := List.getElem?_eq_none_iff.1 hz
    rw [ths_len h.same] at this
    omega
theorem thr_some (h : MAt w base b own mm xs mv tv ev) {z : Int} {t : MT} (hz : mm.thr z = some t) : ∃ (n : Nat) (x : TX), z = (n : Int) ∧ xs[n]? = some x ∧ x.th = t := by
  obtain ⟨h0, h1⟩ := thr_mem hz
  obtain ⟨n, rfl⟩ := Int.eq_ofNat_of_zero_le h0
  rw [Int.toNat_natCast, h.same, List.getElem?_map] at h1
  cases hx : xs[n]? with
  | none => rw [hx] at h1; cases h1
  | some x => rw [hx] at h1; simp at h1; exact ⟨n, x, rfl, hx, h1⟩
theorem flush_none (h : MAt w base b own mm xs mv tv ev) {z : Int} (hz : z < 0 ∨ (xs.length : Int) ≤ z) :
    Calls Tryz.prog 197 #[.pointer (some ⟨b, 0, none⟩), .int .i64 z] w fun r w' => r = .returned (.bool false) ∧ w' = w := by
  have H := hidI h
  clear h
  go_enter Tryz.func197, Tryz.ntmps197
  go_wp2_with fail
  refine (of_no H.out hz).mono ?_
  rintro e w1 ⟨rfl, rfl⟩
  go_wp2_with fail
  go_ret
  exact ⟨rfl, rfl⟩
theorem flush_empty {tb cap n : Nat} {x : TX} (h : MAt w base b own mm xs mv (.slice (some ⟨tb, 0, none⟩) xs.length cap) ev) (hx : xs[n]? = some x) (hw : x.th.wait = []) :
    Calls Tryz.prog 197 #[.pointer (some ⟨b, 0, none⟩), .int .i64 (n : Int)] w fun r w' => r = .returned (.bool false) ∧ Below w.heap.size w w' := by
  have e10 := h.cell hx 10 _ rfl
  obtain ⟨c, f, hr⟩ := (h.th n x hx).ring
  rw [hw] at hr
  have HR := hidI hr
  have H := hidI h
  have HX := hidI hx
  clear h hx hr hw
  go_enter Tryz.func197, Tryz.ntmps197
  go_wp2_with fail
  refine (of_yes H.out HX.out).mono ?_
  rintro e w1 ⟨rfl, rfl⟩
  go_wp2_with fail
  refine (take_empty HR.out).mono ?_
  rintro e w1 ⟨rfl, hb⟩
  have HB := hidI hb
  clear e10 hb HR
  go_wp2_with fail
  go_ret
  exact ⟨rfl, HB.out.alloc HB.out.size _⟩
theorem flush_some {tb cap n mb mc : Nat} {x : TX} (h : MAt w base b own mm xs (.slice (some ⟨mb, 0, none⟩) mm.mem.length mc) (.slice (some ⟨tb, 0, none⟩) xs.length cap) ev) (hx : xs[n]? = some x) {a v : Int} {q : List (Int × Int)} (hw : x.th.wait = (a, v) :: q) (ha : 0 ≤ a ∧ a < mm.mem.length) :
    Calls Tryz.prog 197 #[.pointer (some ⟨b, 0, none⟩), .int .i64 (n : Int)] w fun r w' => r = .returned (.bool true) ∧ MGoes w base b own ({ mm with mem := mm.mem.set a.toNat v }.put n { x.th with wait := q }) w' := by
  have e10 := h.cell hx 10 _ rfl
  obtain ⟨c, f, hr⟩ := (h.th n x hx).ring
  rw [hw] at hr
  have HR := hidI hr
  have H := hidI h
  have HX := hidI hx
  obtain ⟨an, rfl⟩ := Int.eq_ofNat_of_zero_le ha.1
  have ham : an < mm.mem.length := by omega
  clear h hx hr hw
  go_enter Tryz.func197, Tryz.ntmps197
  go_wp2_with fail
  refine (of_yes H.out HX.out).mono ?_
  rintro e w1x ⟨rfl, rfl⟩
  go_wp2_with fail
  refine (take_some HR.out).mono ?_
  rintro e w1 ⟨rfl, ⟨c', f', hr⟩, hc⟩
  obtain ⟨w5, hw5⟩ : ∃ w5, w5 = w1.alloc (.cells #[.int .i64 (an : Int), .int .i64 v] 103) := ⟨_, rfl⟩
  have hb5 : Below w1.heap.size w1 w5 := hw5 ▸ ((Below.refl _ _).alloc (Nat.le_refl _) _)
  have h2 := (H.out.ringed HX.out hc hr).below hb5
  have c1 := h2.wcell 1 _ rfl
  have cM := h2.mcell ham
  have fM := h2.mfree (by show 0 < mm.mem.length; omega) an
  have k0 : w5.cell? ⟨w1.heap.size, 0, none⟩ = some (.int .i64 (an : Int)) := by rw [hw5]; exact cell_of_block (heap_alloc_new _ _) rfl
  have k1 : w5.cell? ⟨w1.heap.size, 1, none⟩ = some (.int .i64 v) := by rw [hw5]; exact cell_of_block (heap_alloc_new _ _) rfl
  have hb6 : w1.heap.size ≤ w5.heap.size := hb5.size
  have H2 := hidI h2
  have HC := hidI ((hc.trans (Chg.of_below hb5)).imp (T := fun k => own k ≠ 0 ∧ ¬ (5 ≤ own k ∧ own k % 3 = 2)) (fun k _ e => by rw [e, (H.out.th n x HX.out).ringT.2]; omega))
  have HW5 := hidI hw5
  clear hr hc h2 e10 HR hb5
  simp only [MM.put] at c1 cM
  go_wp2_with fail
  rw [← HW5.out]
  clear HW5 hw5
  go_still_tail 8, (by kernel_rfl)
  go_wp2_with fail
  go_ret
  have h6 := H2.out.drew.word ham v
  refine ⟨rfl, ⟨own, _, _, _, _, h6, fun _ _ => rfl⟩, (HC.out.drew).setCell (p := ⟨mb, an, none⟩) (.inl ?_) _⟩
  show own mb ≠ 0 ∧ ¬ (5 ≤ own mb ∧ own mb % 3 = 2)
  rw [H.out.memT mb rfl]; decide
theorem flush_any {N : Nat} (h : MAt w base b own mm xs mv tv ev) (hk : MOk N mm) (z : Int) :
    Calls Tryz.prog 197 #[.pointer (some ⟨b, 0, none⟩), .int .i64 z] w fun r w' => r = .returned (.bool (mm.flush z).1) ∧ MGoes w base b own (mm.flush z).2 w' := by
  cases ht : mm.thr z with
  | none =>
    refine (flush_none h (thr_none h ht)).mono ?_
    rintro r w' ⟨rfl, rfl⟩
    have e : mm.flush z = (false, mm) := by unfold MM.flush; rw [ht]
    rw [e]
    exact ⟨rfl, MGoes.same h (Below.refl _ _)⟩
  | some t =>
    obtain ⟨n, x, rfl, hx, rfl⟩ := thr_some h ht
    obtain ⟨tb, cap, rfl, -⟩ := h.tslice hx
    have hth := hk.th _ (List.mem_of_getElem? (h.th_at hx))
    obtain ⟨mb, mc, rfl, -⟩ := h.mslice (by have := hk.mem; omega)
    cases hw : x.th.wait with
    | nil =>
      have e : mm.flush (n : Int) = (false, mm) := by unfold MM.flush; rw [ht]; simp [hw]
      rw [e]
      refine (flush_empty h hx hw).mono ?_
      rintro r w' ⟨rfl, hb⟩
      exact ⟨rfl, MGoes.same h hb⟩
    | cons c q =>
      have e : mm.flush (n : Int) = (true, { mm with mem := mm.mem.set c.1.toNat c.2 }.put n { x.th with wait := q }) := by unfold MM.flush; rw [ht]; simp [hw]
      rw [e]
      exact flush_some h hx hw (hth.wait c (by rw [hw]; exact List.mem_cons_self))
end
section
variable {w w' : World} {base b : Nat} {own own' : Nat → Nat} {mm : MM} {xs : List TX} {mv tv ev : Value}
theorem step_any {N : Nat} (h : MAt w base b own mm xs mv tv ev) (hk : MOk N mm) (hN : N < 1000000000) (z : Int) :
    Calls Tryz.prog 194 #[.pointer (some ⟨b, 0, none⟩), .int .i64 z] w fun r w' => r = .returned (.bool (mm.step z).1) ∧ MGoes w base b own (mm.step z).2 w' := by
  cases ht : mm.thr z with
  | none =>
    refine (step_none h (thr_none h ht)).mono ?_
    rintro r w' ⟨rfl, hb⟩
    have e : mm.step z = (false, mm) := by unfold MM.step; rw [ht]
    rw [e]
    exact ⟨rfl, MGoes.same h hb⟩
  | some t =>
    obtain ⟨n, x, rfl, hx, rfl⟩ := thr_some h ht
    obtain ⟨tb, cap, rfl, -⟩ := h.tslice hx
    have hm := List.mem_of_getElem? (h.th_at hx)
    have hth := hk.th _ hm
    by_cases hf : x.th.fin = 0
    · have e : mm.step (n : Int) = mm.go n x.th := by unfold MM.step; rw [ht]; simp [hf]
      rw [e]
      have hev : mm.evs.length < 1000000000 := Nat.lt_of_le_of_lt hk.evs hN
      have h4 : xs.length ≤ 4 := by rw [← ths_len h.same]; exact hk.four
      by_cases hat : x.th.at_ < 0 ∨ x.th.code.length ≤ x.th.at_
      · exact step_far h hx hf hat hev h4
      · have hat0 := hth.at_
        have hlt : x.th.at_.toNat < x.th.code.length := by omega
        have ho := List.getElem?_eq_getElem hlt
        have hok := hth.ops _ (List.getElem_mem hlt)
        have hol := Nat.lt_of_le_of_lt hth.out hN
        generalize x.th.code[x.th.at_.toNat] = o at ho hok
        by_cases hmo : ∃ a, x.th.word o = some a ∧ mm.has a = false
        · exact step_bad h hx hk.mem.2 hf hth.at_ ho hok hol hmo hev h4
        · cases hwt : x.th.waits o with
          | true => exact step_waits h hx hk.mem.2 hf hth.at_ ho hok hol hmo hwt hev h4
          | false =>
            cases hst : x.th.stops o with
            | none => exact step_live h hx hk.mem.2 hf hth.at_ ho hok hol hmo hwt hst hev h4
            | some k => exact step_dies h hx hk.mem.2 hf hth.at_ ho hok hol hmo hwt ⟨k, hst⟩ hev h4
    · have e : mm.step (n : Int) = (false, mm) := by unfold MM.step; rw [ht]; simp [hf]
      rw [e]
      refine (step_fin h hx hf).mono ?_
      rintro r w' ⟨rfl, hb⟩
      exact ⟨rfl, MGoes.same h hb⟩
end
section
variable {w w' : World}
theorem codeV_ne (w : World) (b : Bool) : Sem.run Tryz.prog (binOp .neq 31 (codeV b) (.int .i64 0)) w = .ok (.bool (!b)) w := by
  cases b <;> kernel_rfl
theorem bad_any (w : World) (o : OpD) (hw : wfOp o) : Calls Tryz.prog 243 #[.agg (encOp o).toArray] w fun e w' => e = .returned (.bool (!checkS o)) ∧ Below w.heap.size w w' := by
  obtain ⟨kind, cal, a, b, c, n⟩ := o
  have HW := hidI hw
  clear hw
  unfold encOp
  have hq := codeV_ne
  have HBOX := hidI ((Below.refl w.heap.size w).alloc (Nat.le_refl _) (.cells #[.int .u8 kind, .int .u8 cal, .int .u8 a, .int .u8 b, .int .u8 c, .int .i64 n] 101))
  go_enter Tryz.func243, Tryz.ntmps243
  go_wp2_with fail
  refine (check_any _ _ HW.out).mono ?_
  rintro e w1 ⟨rfl, hb⟩
  have HB := hidI hb
  clear hb hq
  cases hc : checkS ⟨kind, cal, a, b, c, n⟩ with
  | true =>
    rw [show codeV true = .int .i64 0 from rfl]
    have HC := hidI hc
    clear hc
    go_wp2_with fail
    go_ret
    exact ⟨by rw [HC.out]; rfl, HBOX.out.trans (HB.out.mono HBOX.out.size)⟩
  | false =>
    rw [show codeV false = .int .i64 1 from rfl]
    have HC := hidI hc
    clear hc
    go_wp2_with fail
    go_ret
    exact ⟨by rw [HC.out]; rfl, HBOX.out.trans (HB.out.mono HBOX.out.size)⟩
theorem index_any {ao : Option Addr} {cap : Nat} {l : List OpD} (h : RdT encOp w 6 (.slice ao l.length cap) l) (hl : l.length ≤ 262144) (hw : ∀ o ∈ l, wfOp o) :
    Calls Tryz.prog 265 #[.slice ao l.length cap, .func (.func 243) #[] #[]] w fun e w' => (∃ z : Int, e = .returned (.int .i64 z) ∧ (0 ≤ z ↔ ∃ o ∈ l, checkS o = false)) ∧ Below w.heap.size w w' := by
  have H := hidI h
  have HL := hidI hl
  have HWF := hidI hw
  clear h hl hw
  go_enter Tryz.func265, Tryz.ntmps265
  go_wp2_with fail
  go_loopw [8] (fun i w' => ∃ k : Nat, k ≤ l.length ∧ i = .int .i64 (k : Int) ∧ Hid (Below w.heap.size w w' ∧ ∀ j (o : OpD), j < k → l[j]? = some o → checkS o = true)) (fun i _ => ((l.length : Int) - intOf i).toNat)
  case atStart => exact ⟨0, by omega, rfl, ⟨Below.refl _ _, fun j o hj => absurd hj (by omega)⟩⟩
  case round =>
    obtain ⟨k, hk, rfl, HR⟩ := hrel
    by_cases hlt : k < l.length
    · have ho := List.getElem?_eq_getElem hlt
      obtain ⟨cb, co, rfl, hcb, hcc⟩ := RdT.at encOp_len (H.out.below HR.out.1) ho
      generalize ho' : l[k] = o at ho hcc
      have hwo := HWF.out o (List.mem_of_getElem? ho)
      obtain ⟨ki, cal, ra, rb, rc, num⟩ := o
      have i0 := hcc 0 _ rfl
      have i1 := hcc 1 _ rfl
      have i2 := hcc 2 _ rfl
      have i3 := hcc 3 _ rfl
      have i4 := hcc 4 _ rfl
      have i5 := hcc 5 _ rfl
      rw [Nat.add_zero] at i0
      have HO := hidI ho
      have HWO := hidI hwo
      clear ho ho' hwo hcc hcb
      go_wp2_with fail
      refine (bad_any wr ⟨ki, cal, ra, rb, rc, num⟩ HWO.out).mono ?_
      rintro e w2 ⟨rfl, hb2⟩
      have HB2 := hidI (HR.out.1.trans (hb2.mono HR.out.1.size))
      clear hb2 i0 i1 i2 i3 i4 i5
      cases hc : checkS ⟨ki, cal, ra, rb, rc, num⟩ with
      | false =>
        have HC := hidI hc
        clear hc
        go_wp2_with fail
        go_ret
        exact ⟨⟨_, rfl, ⟨fun _ => ⟨_, List.mem_of_getElem? HO.out, HC.out⟩, fun _ => by omega⟩⟩, HB2.out⟩
      | true =>
        have HC := hidI hc
        have hkl : k < 262144 := Nat.lt_of_lt_of_le hlt HL.out
        clear hc
        go_wp2_with fail
        refine ⟨⟨k + 1, by omega, by go_num, ⟨HB2.out, fun j o hj ho => ?_⟩⟩, by simp [intOf]; omega⟩
        by_cases e : j = k
        · subst e
          rw [HO.out] at ho
          cases ho
          exact HC.out
        · exact HR.out.2 j o (by omega) ho
    · obtain rfl : k = l.length := by omega
      go_wp2_with fail
      go_ret
      refine ⟨⟨-1, rfl, ⟨fun h => absurd h (by decide), fun ⟨o, ho, hc⟩ => ?_⟩⟩, HR.out.1⟩
      obtain ⟨j, hj⟩ := List.getElem?_of_mem ho
      rw [HR.out.2 j o (List.getElem?_eq_some_iff.1 hj).1 hj] at hc
      cases hc
theorem contains_any {ao : Option Addr} {cap : Nat} {l : List OpD} (h : RdT encOp w 6 (.slice ao l.length cap) l) (hl : l.length ≤ 262144) (hw : ∀ o ∈ l, wfOp o) :
    Calls Tryz.prog 242 #[.slice ao l.length cap, .func (.func 243) #[] #[]] w fun e w' => e = .returned (.bool (!(l.all checkS))) ∧ Below w.heap.size w w' := by
  have H := hidI h
  have HL := hidI hl
  have HWF := hidI hw
  clear h hl hw
  go_enter Tryz.func242, Tryz.ntmps242
  go_wp2_with fail
  refine (index_any H.out HL.out HWF.out).mono ?_
  rintro e w1 ⟨⟨z, rfl, hz⟩, hb⟩
  have HZ := hidI hz
  have HB := hidI hb
  clear hz hb
  by_cases h0 : 0 ≤ z
  · have hd : decide (0 ≤ z) = true := decide_eq_true h0
    go_wp2_with fail
    go_ret
    refine ⟨?_, HB.out⟩
    obtain ⟨o, ho, hc⟩ := HZ.out.1 h0
    rw [show l.all checkS = false from by rw [List.all_eq_false]; exact ⟨o, ho, by simp [hc]⟩]
    rfl
  · have hd : decide (0 ≤ z) = false := decide_eq_false h0
    go_wp2_with fail
    go_ret
    refine ⟨?_, HB.out⟩
    rw [show l.all checkS = true from by
      rw [List.all_eq_true]
      intro o ho
      cases hc : checkS o with
      | true => rfl
      | false => exact absurd (HZ.out.2 ⟨o, ho, hc⟩) (by omega)]
    rfl
end
section
variable {w w' : World}
def encC (p : Value × List OpD) : List Value := [p.1]
theorem encC_len : ∀ p, (encC p).length = 1 := fun _ => rfl
structure CodeAt (w : World) (v : Value) (l : List (Value × List OpD)) : Prop where
  rows : RdT encC w 1 v l
  each : ∀ p ∈ l, RdT encOp w 6 p.1 p.2
  wf : ∀ p ∈ l, ∀ o ∈ p.2, wfOp o
theorem CodeAt.below {v : Value} {l : List (Value × List OpD)} (h : CodeAt w v l) (hb : Below w.heap.size w w') : CodeAt w' v l := ⟨Rd.below h.rows hb, fun p hp => Rd.below (h.each p hp) hb, h.wf⟩
def countS (l : List (Value × List OpD)) : Nat := (l.map fun p => min p.2.length 262145).sum
def cellsOk (mem : Int) : Int → List (Int × Int) → Bool
  | _, [] => true
  | last, c :: r => decide (last < c.1 ∧ c.1 < mem) && cellsOk mem c.1 r
def checkM (mem : Int) (l : List (Value × List OpD)) (cs : List (Int × Int)) : Int :=
  if 262144 < mem ∨ 4 < l.length ∨ 262144 < countS l then 3
  else if mem < 1 then 1
  else if (l.all fun p => p.2.all checkS) = false then 1
  else if cellsOk mem (-1) cs = false then 1
  else 0
theorem count_step {l : List (Value × List OpD)} {k : Nat} {p : Value × List OpD} (h : l[k]? = some p) : countS (l.take (k + 1)) = countS (l.take k) + min p.2.length 262145 := by
  unfold countS
  rw [List.take_add_one, h]
  simp
theorem count_le (l : List (Value × List OpD)) : countS l ≤ l.length * 262145 := by
  unfold countS
  induction l with
  | nil => simp
  | cons p r ih => simp only [List.map_cons, List.sum_cons, List.length_cons]; have : min p.2.length 262145 ≤ 262145 := Nat.min_le_right _ _; omega
theorem count_take_le (l : List (Value × List OpD)) (k : Nat) : countS (l.take k) ≤ l.length * 262145 := Nat.le_trans (count_le _) (Nat.mul_le_mul_right _ (by rw [List.length_take]; exact Nat.min_le_right _ _))
theorem count_each {l : List (Value × List OpD)} (h : countS l ≤ 262144) : ∀ p ∈ l, p.2.length ≤ 262144 := by
  induction l with
  | nil => exact fun p hp => absurd hp (by simp)
  | cons q r ih =>
    unfold countS at h ih
    simp only [List.map_cons, List.sum_cons] at h
    intro p hp
    rcases List.mem_cons.1 hp with rfl | e
    · omega
    · exact ih (by omega) p e
theorem cell_allocU {w : World} {a : Addr} {u : Value} (h : w.cell? a = some u) (o : Obj) : (w.alloc o).cell? a = some u := by
  rw [World.cell?_of_block (w := w) (heap_alloc_old w o (World.block_lt_of_cell? w a h))]; exact h
theorem checkM_any {ca cca : Option Addr} {ccap ccca : Nat} {l : List (Value × List OpD)} {cs : List (Int × Int)} (h : CodeAt w (.slice ca l.length ccap) l) (hc : RdT encCell w 2 (.slice cca cs.length ccca) cs) (mem : Int) (hl : l.length ≤ 6000000000000) (hcl : cs.length ≤ 9000000000000) :
    Calls Tryz.prog 223 #[.agg #[.slice ca l.length ccap, .int .i64 mem, .slice cca cs.length ccca]] w fun e w' => e = .returned (.int .i64 (checkM mem l cs)) ∧ Below w.heap.size w w' := by
  have H := hidI h
  have HC := hidI hc
  have HL := hidI hl
  have HCL := hidI hcl
  have hb0 : Below w.heap.size w (w.alloc (Obj.cells #[.slice ca l.length ccap, .int .i64 mem, .slice cca cs.length ccca] 30)) := (Below.refl _ _).alloc (Nat.le_refl _) _
  have hbox := block_new w (.cells #[.slice ca l.length ccap, .int .i64 mem, .slice cca cs.length ccca] 30)
  have H0 := hidI (h.below hb0)
  have HC0 := hidI (Rd.below hc hb0)
  have HB := hidI hb0
  have hw0 : w.heap.size < (w.alloc (Obj.cells #[.slice ca l.length ccap, .int .i64 mem, .slice cca cs.length ccca] 30)).heap.size := by simp
  have d0 := cell_of_block (o := 0) hbox rfl
  have d1 := cell_of_block (o := 1) hbox rfl
  have d2 := cell_of_block (o := 2) hbox rfl
  have HKB := hidI hbox
  clear h hc hl hcl hb0 hbox
  go_enter Tryz.func223, Tryz.ntmps223
  go_wp2_with fail
  generalize (w.alloc (Obj.cells #[.slice ca l.length ccap, .int .i64 mem, .slice cca cs.length ccca] 30)) = w0 at H0 HC0 HB hw0 d0 d1 d2 HKB ⊢
  go_loopw [3, 14] (fun c i w' => ∃ k : Nat, k ≤ l.length ∧ i = .int .i64 (k : Int) ∧ c = .int .i64 (countS (l.take k) : Int) ∧ w' = w0) (fun c i _ => ((l.length : Int) - intOf i).toNat)
  case atStart => exact ⟨0, by omega, rfl, by simp [countS], rfl⟩
  case round =>
    obtain ⟨k, hk, rfl, rfl, rfl⟩ := hrel
    by_cases hlt : k < l.length
    · have hp := List.getElem?_eq_getElem hlt
      generalize l[k] = p at hp
      obtain ⟨cb, co, rfl, hcb, hcc⟩ := RdT.at encC_len H0.out.rows hp
      have i0 := hcc 0 _ rfl
      obtain ⟨ao, cap, hcv⟩ := (H0.out.each p (List.mem_of_getElem? hp)).shape
      have hst := count_step hp
      rw [Nat.mul_one, Nat.add_zero, hcv] at i0
      have hct := count_take_le l k
      have HST := hidI hst
      clear hst
      go_wp2_with fail
      have hL := HL.out
      have hk1 : wrap64 ((k : Int) + 1) = ((k + 1 : Nat) : Int) := by unfold wrap64; omega
      have hc1 : wrap64 ((countS (l.take k) : Int) + if 262145 < (p.2.length : Int) then 262145 else (p.2.length : Int)) = ((countS (l.take (k + 1)) : Nat) : Int) := by
        rw [HST.out]
        unfold wrap64
        split <;> omega
      refine ⟨⟨k + 1, by omega, by rw [hk1], by rw [hc1], trivial⟩, ?_⟩
      rw [hk1]
      simp only [intOf]
      omega
    · obtain rfl : k = l.length := by omega
      rw [List.take_length]
      by_cases hA : 262144 < mem ∨ 4 < l.length ∨ 262144 < countS l
      · have HE := hidI (show checkM mem l cs = 3 from by unfold checkM; rw [if_pos hA])
        by_cases a1 : 262144 < mem
        · clear hA
          go_wp2_with fail
          go_ret
          exact ⟨by rw [HE.out]; rfl, HB.out⟩
        · by_cases a2 : 4 < l.length
          · have a2' : (4 : Int) < (l.length : Int) := by omega
            clear hA a2
            go_wp2_with fail
            go_ret
            exact ⟨by rw [HE.out]; rfl, HB.out⟩
          · have a2' : ¬ (4 : Int) < (l.length : Int) := by omega
            have a3' : (262144 : Int) < (countS l : Int) := by omega
            clear hA a2
            go_wp2_with fail
            go_ret
            exact ⟨by rw [HE.out]; rfl, HB.out⟩
      · have a1 : ¬ 262144 < mem := by omega
        have a2' : ¬ (4 : Int) < (l.length : Int) := by omega
        have a3' : ¬ (262144 : Int) < (countS l : Int) := by omega
        have HA := hidI hA
        have h4 : l.length ≤ 4 := by omega
        have HEACH := hidI (count_each (l := l) (by omega))
        clear hA
        by_cases hm : mem < 1
        · go_wp2_with fail
          go_ret
          refine ⟨?_, HB.out⟩
          rw [show checkM mem l cs = 1 from by unfold checkM; rw [if_neg HA.out, if_pos hm]]
          rfl
        · go_wp2_with fail
          have HM := hidI hm
          clear a1 a2' a3' hm
          go_loopw [45] (fun i w' => ∃ k : Nat, k ≤ l.length ∧ i = .int .i64 (k : Int) ∧ Hid (Below wr.heap.size wr w' ∧ ∀ j (p : Value × List OpD), j < k → l[j]? = some p → p.2.all checkS = true)) (fun i _ => ((l.length : Int) - intOf i).toNat)
          case atStart => exact ⟨0, by omega, rfl, ⟨Below.refl _ _, fun j p hj => absurd hj (by omega)⟩⟩
          case round =>
            obtain ⟨k, hk, rfl, HR⟩ := hrel
            by_cases hlt : k < l.length
            · have hp := List.getElem?_eq_getElem hlt
              generalize l[k] = p at hp
              have hmp := List.mem_of_getElem? hp
              obtain ⟨cb, co, e1, hcb, hcc⟩ := RdT.at encC_len (H0.out.below HR.out.1).rows hp
              have i0 := hcc 0 _ rfl
              obtain ⟨ao, cap, hcv⟩ := (H0.out.each p hmp).shape
              rw [Nat.mul_one, Nat.add_zero, hcv] at i0
              have hrow := (H0.out.below HR.out.1).each p hmp
              rw [hcv] at hrow
              have HROW := hidI hrow
              have HLE := hidI (HEACH.out p hmp)
              have HWF := hidI (H0.out.wf p hmp)
              have HP := hidI hp
              subst e1
              clear hcc hcv hcb hrow hmp hp
              go_wp2_with fail
              refine (contains_any HROW.out HLE.out HWF.out).mono ?_
              rintro e w2 ⟨rfl, hb2⟩
              have HB2 := hidI (HR.out.1.trans (hb2.mono HR.out.1.size))
              clear hb2 i0
              cases hal : p.2.all checkS with
              | false =>
                have HAL := hidI hal
                clear hal
                go_wp2_with fail
                go_ret
                refine ⟨?_, HB.out.trans (HB2.out.mono HB.out.size)⟩
                rw [show checkM mem l cs = 1 from by
                  unfold checkM
                  rw [if_neg HA.out, if_neg (show ¬ mem < 1 from by have := HM.out; omega), if_pos]
                  rw [List.all_eq_false]
                  exact ⟨p, List.mem_of_getElem? HP.out, by rw [HAL.out]; decide⟩]
                rfl
              | true =>
                have HAL := hidI hal
                clear hal
                go_wp2_with fail
                refine ⟨⟨k + 1, by omega, by go_num, ⟨HB2.out, fun j q hj hq => ?_⟩⟩, by simp [intOf]; omega⟩
                by_cases e : j = k
                · subst e
                  rw [HP.out] at hq
                  cases hq
                  exact HAL.out
                · exact HR.out.2 j q (by omega) hq
            · obtain rfl : k = l.length := by omega
              have HALL := hidI (show (l.all fun p => p.2.all checkS) = true from by
                rw [List.all_eq_true]
                intro p hp
                obtain ⟨j, hj⟩ := List.getElem?_of_mem hp
                exact HR.out.2 j p (List.getElem?_eq_some_iff.1 hj).1 hj)
              have hbr := HR.out.1
              have q0 := (World.cell?_of_block (hbr.block _ (World.block_lt_of_cell? _ _ d1))).trans d1
              have q2 := (World.cell?_of_block (hbr.block _ (World.block_lt_of_cell? _ _ d2))).trans d2
              have HBR := hidI (HB.out.trans (hbr.mono HB.out.size))
              have HC1 := hidI (Rd.below HC0.out hbr)
              clear d0 d1 d2 hbr HR H0 HC0 HB HKB
              go_wp2_with fail
              go_loopw [8, 55] (fun lv i w' => ∃ (k : Nat) (la : Int), k ≤ cs.length ∧ i = .int .i64 (k : Int) ∧ lv = .int .i64 la ∧ Hid (Below wr.heap.size wr w' ∧ cellsOk mem (-1) cs = cellsOk mem la (cs.drop k))) (fun lv i _ => ((cs.length : Int) - intOf i).toNat)
              case atStart => exact ⟨0, -1, by omega, rfl, rfl, ⟨Below.refl _ _, by simp⟩⟩
              case round =>
                obtain ⟨k, la, hk, rfl, rfl, HR⟩ := hrel
                by_cases hlt : k < cs.length
                · have hp := List.getElem?_eq_getElem hlt
                  have hdr := List.drop_eq_getElem_cons hlt
                  generalize cs[k] = c at hp hdr
                  obtain ⟨ca, cv⟩ := c
                  obtain ⟨cb, co, e1, hcb, hcc⟩ := RdT.at encCell_len (Rd.below HC1.out HR.out.1) hp
                  have i0 := hcc 0 _ rfl
                  have i1 := hcc 1 _ rfl
                  rw [Nat.add_zero] at i0
                  have hbr := HR.out.1
                  have m1 := (World.cell?_of_block (hbr.block _ (World.block_lt_of_cell? _ _ q0))).trans q0
                  have m2 := fun o => cell_allocU m1 o
                  have HD := hidI (show cellsOk mem (-1) cs = (decide (la < ca ∧ ca < mem) && cellsOk mem ca (cs.drop (k + 1))) from by rw [HR.out.2, hdr]; rfl)
                  have HB2 := hidI hbr
                  have hkl := HCL.out
                  subst e1
                  clear hcc hcb hp hdr hbr HR
                  by_cases b1 : ca ≤ la
                  · go_wp2_with fail
                    go_ret
                    refine ⟨?_, HBR.out.trans ((HB2.out.alloc HB2.out.size _).mono HBR.out.size)⟩
                    rw [show checkM mem l cs = 1 from by
                      unfold checkM
                      rw [if_neg HA.out, if_neg (show ¬ mem < 1 from by have := HM.out; omega), if_neg (by rw [HALL.out]; decide), if_pos]
                      rw [HD.out, decide_eq_false (by omega)]
                      rfl]
                    rfl
                  · by_cases b2 : mem ≤ ca
                    · go_wp2_with fail
                      go_ret
                      refine ⟨?_, HBR.out.trans ((HB2.out.alloc HB2.out.size _).mono HBR.out.size)⟩
                      rw [show checkM mem l cs = 1 from by
                        unfold checkM
                        rw [if_neg HA.out, if_neg (show ¬ mem < 1 from by have := HM.out; omega), if_neg (by rw [HALL.out]; decide), if_pos]
                        rw [HD.out, decide_eq_false (by omega)]
                        rfl]
                      rfl
                    · have b1' : la < ca := by omega
                      have b2' : ca < mem := by omega
                      have hkl2 : (k : Int) < 9000000000000 := by omega
                      clear hkl
                      go_wp2_with fail
                      refine ⟨⟨k + 1, ca, by omega, by go_num, rfl, ⟨HB2.out.alloc HB2.out.size _, by rw [HD.out, decide_eq_true ⟨b1', b2'⟩]; rfl⟩⟩, by simp [intOf]; omega⟩
                · obtain rfl : k = cs.length := by omega
                  go_wp2_with fail
                  go_ret
                  refine ⟨?_, HBR.out.trans (HR.out.1.mono HBR.out.size)⟩
                  rw [show checkM mem l cs = 0 from by
                    unfold checkM
                    rw [if_neg HA.out, if_neg (show ¬ mem < 1 from by have := HM.out; omega), if_neg (by rw [HALL.out]; decide), if_neg]
                    rw [HR.out.2]
                    simp [cellsOk]]
                  rfl
end
section
variable {w w' : World} {base b : Nat} {own own' : Nat → Nat} {mm : MM} {xs : List TX} {mv tv ev : Value}
def newX (code : List OpD) (cv : Value) (rb : Nat) : TX := ⟨MT.new code, cv, rb, .slice none 0 0⟩
def pushT (own : Nat → Nat) (tv' cv : Value) (code : List OpD) (rb n m : Nat) (k : Nat) : Nat :=
  if k < m then own k else if tv'.ownBlock = some k then 3 else if code ≠ [] ∧ cv.ownBlock = some k then 5 + 3 * n else if k = rb then 6 + 3 * n else 0
theorem pushT_old {tv' cv : Value} {code : List OpD} {rb n m k : Nat} (h : k < m) : pushT own tv' cv code rb n m k = own k := if_pos h
theorem rdt_lt {sz : Nat} {v : Value} {l : List OpD} {g : Nat} (h : RdT encOp w sz v l) (hn : l ≠ []) (hg : v.ownBlock = some g) : g < w.heap.size := by
  obtain ⟨h1, ao, cap, h2, h3, h4⟩ := h
  obtain ⟨b, off, rfl, hb, _⟩ := h4 (List.length_pos_iff.2 hn)
  rw [h2] at hg
  simp only [Value.ownBlock, Option.some.injEq] at hg
  exact hg ▸ hb
theorem MAt.push (h : MAt w base b own mm xs mv tv ev) (hc : Chg (fun k => tv.ownBlock = some k) w w') {code : List OpD} {cv tv' : Value} {rb f : Nat} {c : Array Value}
    (hcode : RdT encOp w' 6 cv code) (hcn : ∀ g, code ≠ [] → cv.ownBlock = some g → w.heap.size ≤ g) (hring : Ring w' rb [] c f) (hrn : w.heap.size ≤ rb)
    (htv : w'.ownsRow base 361 13 tv' (xs.length + 1) ((xs ++ [newX code cv rb]).flatMap encX)) (htn : ∀ g, tv'.ownBlock = some g → tv.ownBlock = some g ∨ w.heap.size ≤ g)
    (hd1 : ∀ g, code ≠ [] → cv.ownBlock = some g → g ≠ rb ∧ tv'.ownBlock ≠ some g) (hd2 : tv'.ownBlock ≠ some rb) :
    MAt (w'.setCell ⟨b, 2, none⟩ tv') base b (pushT own tv' cv code rb xs.length w.heap.size) { mm with ths := mm.ths ++ [MT.new code] } (xs ++ [newX code cv rb]) mv tv' ev := by
  have hbl := h.lt
  have hk : ∀ g, own g ≠ 3 → own g ≠ 1 → g < w.heap.size → (w'.setCell ⟨b, 2, none⟩ tv').heap[g]? = w.heap[g]? := fun g h3 h1 hl => by
    rw [Below.heap_setCell _ _ _ _ (fun e => h1 (by rw [e]; exact h.bT.2))]
    exact hc.block g hl fun e => h3 (h.thsT g e)
  have hk2 : ∀ g, w.heap.size ≤ g → (w'.setCell ⟨b, 2, none⟩ tv').heap[g]? = w'.heap[g]? := fun g hl => Below.heap_setCell _ _ _ _ (fun e => by simp only at e; omega)
  have hb1 := chgblk hc h.blk (fun hk => by have h1 := h.thsT _ hk; rw [h.bT.2] at h1; exact absurd h1 (by decide))
  have hset := block_setCell (o := 2) tv' hb1
  have hsz := hc.size
  have hbs := h.base_le
  have ho : ∀ k, k < w.heap.size → pushT own tv' cv code rb xs.length w.heap.size k = own k := fun k hk => pushT_old hk
  have hlen : (xs ++ [newX code cv rb]).length = xs.length + 1 := by simp
  have htb : ∀ g, tv'.ownBlock = some g → g ≠ b := fun g hg e => by
    rcases htn g hg with e' | e'
    · have := h.thsT g e'; rw [e, h.bT.2] at this; omega
    · omega
  refine ⟨hset, ⟨h.bT.1, by rw [ho _ hbl]; exact h.bT.2⟩, ownRow_keep h.mem fun g hg hl => hk g (by rw [h.memT g hg]; omega) (by rw [h.memT g hg]; omega) hl, fun g hg => by rw [ho _ (rowLt h.mem hg).2]; exact h.memT g hg,
    by rw [hlen]; exact ownRow_keep htv fun g hg _ => Below.heap_setCell _ _ _ _ (htb g hg), fun g hg => ?_,
    ownRow_keep h.evs fun g hg hl => hk g (by rw [h.evsT g hg]; omega) (by rw [h.evsT g hg]; omega) hl, fun g hg => by rw [ho _ (rowLt h.evs hg).2]; exact h.evsT g hg,
    by simp [h.same, newX], fun i x hx => ?_, fun k hk' => ?_⟩
  · by_cases e : g < w.heap.size
    · rw [ho _ e]
      rcases htn g hg with e' | e'
      · exact h.thsT g e'
      · omega
    · unfold pushT
      rw [if_neg e, if_pos hg]
  · rcases Nat.lt_or_ge i xs.length with hi | hi
    · rw [List.getElem?_append_left hi] at hx
      exact (h.th i x hx).keep ho fun g hg hl => hk g (by omega) (by omega) hl
    · have hi' : i = xs.length := by have := (List.getElem?_eq_some_iff.1 hx).1; rw [hlen] at this; omega
      subst hi'
      simp at hx
      subst hx
      refine ⟨hcode.keepN fun g hn hg _ => hk2 g (hcn g hn hg), fun g hn hg => ⟨by have := hcn g hn hg; omega, ?_⟩, ⟨c, f, hring.keep (hk2 _ hrn)⟩, ⟨by show base ≤ rb; omega, ?_⟩, World.ownsRow_nil _ _ _ _, fun g hg => by cases hg⟩
      · have h1 := hcn g hn hg
        have h2 := hd1 g hn hg
        unfold pushT
        rw [if_neg (by omega), if_neg h2.2, if_pos ⟨hn, hg⟩]
      · have h2 : ¬ (code ≠ [] ∧ cv.ownBlock = some rb) := fun e => (hd1 rb e.1 e.2).1 rfl
        show pushT own tv' cv code rb xs.length w.heap.size rb = _
        unfold pushT
        rw [if_neg (by omega), if_neg hd2, if_neg h2, if_pos rfl]
  · rw [heapSize_setCell] at hk'
    unfold pushT
    rw [if_neg (by omega), if_neg (fun e => by have := (rowLt htv e).2; omega), if_neg (fun e => by have := rdt_lt hcode e.1 e.2; omega), if_neg (fun e => by have := hring.lt; omega)]
end
section
variable {w w' : World}
theorem eqlNilT {t e : TypeId} (h : Tryz.prog.underlying t = some (.slice e)) (w : World) (a : Option Addr) (l c : Nat) : Sem.run Tryz.prog (binOp .eql t (.slice a l c) (.slice none 0 0)) w = .ok (.bool a.isNone) w := by
  simp only [binOp]
  simp [run_equal_slice_nil w t e a l c h]
theorem opInfo2 : (Tryz.prog.info? 101).map (fun i => (i.zero, i.size, i.bytes)) = some (some (.agg #[.int .u8 0, .int .u8 0, .int .u8 0, .int .u8 0, .int .u8 0, .int .i64 0]), 6, 16) := by kernel_rfl
theorem i64Info2 : (Tryz.prog.info? 2).map (fun i => (i.zero, i.size, i.bytes)) = some (some (.int .i64 0), 1, 8) := by kernel_rfl
theorem evInfo2 : (Tryz.prog.info? 181).map (fun i => (i.zero, i.size, i.bytes)) = some (some (.agg #[.int .i64 0, .int .u8 0, .int .i64 0, .int .i64 0]), 4, 32) := by kernel_rfl
theorem one_opD (x : OpD) : ∀ u ∈ encOp x, u.oneCell' = true := by
  intro u hu
  simp [encOp] at hu
  rcases hu with rfl | rfl | rfl | rfl | rfl | rfl <;> rfl
theorem one_evD (x : Ev) : ∀ u ∈ encEv x, u.oneCell' = true := by
  intro u hu
  simp [encEv] at hu
  rcases hu with rfl | rfl | rfl | rfl <;> rfl
theorem one_iD (x : Int) : ∀ u ∈ encI x, u.oneCell' = true := by
  intro u hu
  simp [encI] at hu
  rcases hu with rfl
  rfl
theorem one_flat {α : Type} {enc : α → List Value} (h : ∀ a, ∀ u ∈ enc a, u.oneCell' = true) (l : List α) : ∀ u ∈ l.flatMap enc, u.oneCell' = true := by
  intro u hu
  obtain ⟨a, _, ha⟩ := List.mem_flatMap.1 hu
  exact h a u ha
theorem addr_addT (b off i : Nat) : (⟨b, off, none⟩ : Addr).add i = ⟨b, off + i, none⟩ := by unfold Addr.add; split <;> simp_all
theorem read_at {α : Type} {enc : α → List Value} {sz : Nat} {ad : Addr} {n cap : Nat} {l : List α} (h : RdT enc w sz (.slice (some ad) n cap) l) (ob : Obj) : ∀ j u, (l.flatMap enc)[j]? = some u → (w.alloc ob).cell? (ad.add j) = some u := by
  obtain ⟨h1, ao, cap', h2, h3, h4⟩ := h
  simp only [Value.slice.injEq] at h2
  obtain ⟨e1, e2, e3⟩ := h2
  intro j u hj
  have hn : 0 < l.length := by
    rcases Nat.eq_zero_or_pos l.length with e | e
    · rw [List.length_eq_zero_iff.1 e] at hj; simp at hj
    · exact e
  obtain ⟨b, off, rfl, hb, hc⟩ := h4 hn
  cases e1
  rw [addr_addT]
  have := hc j u hj
  rw [World.cell?_of_block (w := w) (heap_alloc_old w ob hb)]
  exact this
def CloneRow {α : Type} (E : TypeId) (sz : Nat) (enc : α → List Value) (l : List α) (w : World) (r : Ending) (w' : World) : Prop :=
  ∃ cv, r = .returned cv ∧ w'.ownsRow w.heap.size E sz cv l.length (l.flatMap enc) ∧ Below w.heap.size w w'
theorem cloneOps_any {ao : Option Addr} {cap : Nat} {l : List OpD} (h : RdT encOp w 6 (.slice ao l.length cap) l) (hl : l.length ≤ 1000000000) :
    Calls Tryz.prog 224 #[.slice ao l.length cap] w (CloneRow 101 6 encOp l w) := by
  have H := hidI h
  have HL := hidI hl
  have hq := fun w a l c => eqlNilT Tryz.underlying79 w a l c
  clear h hl
  cases ao with
  | none =>
    go_enter Tryz.func224, Tryz.ntmps224
    go_wp2_with fail
    go_ret
    obtain ⟨h1, ao, cap', h2, h3, h4⟩ := H.out
    have hn : l.length = 0 := by
      rcases Nat.eq_zero_or_pos l.length with e | e
      · exact e
      · obtain ⟨b, off, e1, -⟩ := h4 e
        simp [e1] at h2
    rw [List.length_eq_zero_iff.1 hn]
    exact ⟨_, rfl, World.ownsRow_nil _ _ _ _, Below.refl _ _⟩
  | some ad =>
    obtain ⟨i0, hi, hz0, hz1, hz2⟩ := info_parts opInfo2
    go_enter Tryz.func224, Tryz.ntmps224
    go_wp2_with (at_builtin; refine wpList_append_d _ rfl _ _ 79 rfl w.heap.size 101 i0 _ 6 16 Tryz.underlying79 hi hz0 hz1 hz2 rfl (by decide) (.slice (some ⟨w.heap.size, 0, none⟩) 0 0) 0 [] rfl ⟨by simp, .inr ⟨w.heap.size, 0, #[], rfl, Nat.le_refl _, heap_alloc_new _ _, Nat.le_refl _, Nat.zero_le _, by simp, by simp⟩⟩ ad l.length cap (l.flatMap encOp) rfl (flat_len encOp_len l) (read_at H.out _) (one_flat one_opD l) (by have := HL.out; unfold maxLen; omega) (by have := HL.out; omega) (by simp) ?_)
    intro ao' cp w1 hown hfrom hgrown
    have HO := hidI hown
    have HB := hidI (((Below.refl w.heap.size w).alloc (Nat.le_refl _) _).grown hgrown (by simp) (fun k hk => by simp only [Value.ownBlock, Option.some.injEq] at hk; omega))
    clear hown hfrom hgrown hi hz0 hz1 hz2 hq
    go_wp2_with fail
    go_ret
    exact ⟨_, rfl, HO.out, HB.out⟩
theorem cloneInts_any {ao : Option Addr} {cap : Nat} {l : List Int} (h : RdT encI w 1 (.slice ao l.length cap) l) (hl : l.length ≤ 1000000000) :
    Calls Tryz.prog 234 #[.slice ao l.length cap] w (CloneRow 2 1 encI l w) := by
  have H := hidI h
  have HL := hidI hl
  have hq := fun w a l c => eqlNilT Tryz.underlying92 w a l c
  clear h hl
  cases ao with
  | none =>
    go_enter Tryz.func234, Tryz.ntmps234
    go_wp2_with fail
    go_ret
    obtain ⟨h1, ao, cap', h2, h3, h4⟩ := H.out
    have hn : l.length = 0 := by
      rcases Nat.eq_zero_or_pos l.length with e | e
      · exact e
      · obtain ⟨b, off, e1, -⟩ := h4 e
        simp [e1] at h2
    rw [List.length_eq_zero_iff.1 hn]
    exact ⟨_, rfl, World.ownsRow_nil _ _ _ _, Below.refl _ _⟩
  | some ad =>
    obtain ⟨i0, hi, hz0, hz1, hz2⟩ := info_parts i64Info2
    go_enter Tryz.func234, Tryz.ntmps234
    go_wp2_with (at_builtin; refine wpList_append_d _ rfl _ _ 92 rfl w.heap.size 2 i0 _ 1 8 Tryz.underlying92 hi hz0 hz1 hz2 rfl (by decide) (.slice (some ⟨w.heap.size, 0, none⟩) 0 0) 0 [] rfl ⟨by simp, .inr ⟨w.heap.size, 0, #[], rfl, Nat.le_refl _, heap_alloc_new _ _, Nat.le_refl _, Nat.zero_le _, by simp, by simp⟩⟩ ad l.length cap (l.flatMap encI) rfl (flat_len encI_len l) (read_at H.out _) (one_flat one_iD l) (by have := HL.out; unfold maxLen; omega) (by have := HL.out; omega) (by simp) ?_)
    intro ao' cp w1 hown hfrom hgrown
    have HO := hidI hown
    have HB := hidI (((Below.refl w.heap.size w).alloc (Nat.le_refl _) _).grown hgrown (by simp) (fun k hk => by simp only [Value.ownBlock, Option.some.injEq] at hk; omega))
    clear hown hfrom hgrown hi hz0 hz1 hz2 hq
    go_wp2_with fail
    go_ret
    exact ⟨_, rfl, HO.out, HB.out⟩
theorem cloneEvs_any {ao : Option Addr} {cap : Nat} {l : List Ev} (h : RdT encEv w 4 (.slice ao l.length cap) l) (hl : l.length ≤ 1000000000) :
    Calls Tryz.prog 235 #[.slice ao l.length cap] w (CloneRow 181 4 encEv l w) := by
  have H := hidI h
  have HL := hidI hl
  have hq := fun w a l c => eqlNilT Tryz.underlying135 w a l c
  clear h hl
  cases ao with
  | none =>
    go_enter Tryz.func235, Tryz.ntmps235
    go_wp2_with fail
    go_ret
    obtain ⟨h1, ao, cap', h2, h3, h4⟩ := H.out
    have hn : l.length = 0 := by
      rcases Nat.eq_zero_or_pos l.length with e | e
      · exact e
      · obtain ⟨b, off, e1, -⟩ := h4 e
        simp [e1] at h2
    rw [List.length_eq_zero_iff.1 hn]
    exact ⟨_, rfl, World.ownsRow_nil _ _ _ _, Below.refl _ _⟩
  | some ad =>
    obtain ⟨i0, hi, hz0, hz1, hz2⟩ := info_parts evInfo2
    go_enter Tryz.func235, Tryz.ntmps235
    go_wp2_with (at_builtin; refine wpList_append_d _ rfl _ _ 135 rfl w.heap.size 181 i0 _ 4 32 Tryz.underlying135 hi hz0 hz1 hz2 rfl (by decide) (.slice (some ⟨w.heap.size, 0, none⟩) 0 0) 0 [] rfl ⟨by simp, .inr ⟨w.heap.size, 0, #[], rfl, Nat.le_refl _, heap_alloc_new _ _, Nat.le_refl _, Nat.zero_le _, by simp, by simp⟩⟩ ad l.length cap (l.flatMap encEv) rfl (flat_len encEv_len l) (read_at H.out _) (one_flat one_evD l) (by have := HL.out; unfold maxLen; omega) (by have := HL.out; omega) (by simp) ?_)
    intro ao' cp w1 hown hfrom hgrown
    have HO := hidI hown
    have HB := hidI (((Below.refl w.heap.size w).alloc (Nat.le_refl _) _).grown hgrown (by simp) (fun k hk => by simp only [Value.ownBlock, Option.some.injEq] at hk; omega))
    clear hown hfrom hgrown hi hz0 hz1 hz2 hq
    go_wp2_with fail
    go_ret
    exact ⟨_, rfl, HO.out, HB.out⟩
end
section
variable {w w' : World} {base b : Nat} {own own' : Nat → Nat} {mm : MM} {xs : List TX} {mv tv ev : Value}
theorem thInfo2 : (Tryz.prog.info? 361).map (fun i => (i.zero, i.size, i.bytes)) = some (some (.agg #[.slice none 0 0, .int .i64 0, .int .i64 0, .int .i64 0, .int .i64 0, .int .i64 0, .int .i64 0, .int .i64 0, .int .i64 0, .int .i64 0, .pointer none, .slice none 0 0, .int .u8 0]), 13, 136) := by kernel_rfl
theorem new_l (w : World) : Calls Tryz.prog 225 #[] w fun e w' => ∃ rb c f, e = .returned (.pointer (some ⟨rb, 0, none⟩)) ∧ Ring w' rb [] c f ∧ Below w.heap.size w w' ∧ w.heap.size ≤ rb := by
  refine (new_any w).mono ?_
  rintro e w' ⟨rfl, rfl⟩
  exact ⟨_, _, _, rfl, ring_new _, (Below.refl _ _).alloc (Nat.le_refl _) _, Nat.le_refl _⟩
theorem clone_l {ao : Option Addr} {cap : Nat} {l : List OpD} (h : RdT encOp w 6 (.slice ao l.length cap) l) (hl : l.length ≤ 1000000000) :
    Calls Tryz.prog 224 #[.slice ao l.length cap] w fun e w' => ∃ ao' cp, e = .returned (.slice ao' l.length cp) ∧ RdT encOp w' 6 (.slice ao' l.length cp) l ∧ (∀ g, (Value.slice ao' l.length cp).ownBlock = some g → w.heap.size ≤ g) ∧ Below w.heap.size w w' := by
  refine (cloneOps_any h hl).mono ?_
  rintro e w' ⟨cv, rfl, ho, hb⟩
  obtain ⟨ao', cp, rfl⟩ := ownsRow_shape ho
  exact ⟨_, _, rfl, Rd.of_own ho, fun g hg => (rowLt ho hg).1, hb⟩
theorem own_below {e : TypeId} {sz n : Nat} {v : Value} {l : List Value} (h : w.ownsRow base e sz v n l) (hb : Below w.heap.size w w') : w'.ownsRow base e sz v n l := ownRow_keep h fun g hg hl => hb.block g hl
theorem one_newX (code : List OpD) (ao : Option Addr) (n cp rb : Nat) : ∀ u ∈ encX (newX code (.slice ao n cp) rb), u.oneCell' = true := by
  intro u hu
  simp [encX, newX] at hu
  rcases hu with rfl | rfl | rfl | rfl | rfl | rfl | rfl | rfl | rfl | rfl | rfl | rfl | rfl <;> rfl
structure Ready (w : World) (x : World) (code : List OpD) (cv : Value) (rb : Nat) : Prop where
  rd : RdT encOp x 6 cv code
  ring : ∃ c f, Ring x rb [] c f
  below : Below w.heap.size w x
  fresh : ∀ g, code ≠ [] → cv.ownBlock = some g → w.heap.size ≤ g ∧ g ≠ rb ∧ g < x.heap.size
  rfresh : w.heap.size ≤ rb
theorem Ready.codeFirst {w a x : World} {code : List OpD} {cv : Value} {rb f : Nat} {c : Array Value} (hs : w.heap.size ≤ a.heap.size) (hcv : RdT encOp a 6 cv code) (hfr : ∀ g, cv.ownBlock = some g → w.heap.size ≤ g) (hb : Below a.heap.size a x) (hr : Ring x rb [] c f) (hge : a.heap.size ≤ rb) (hbx : Below w.heap.size w x) : Ready w x code cv rb :=
  ⟨Rd.below hcv hb, ⟨c, f, hr⟩, hbx, fun g hn hg => ⟨hfr g hg, by have := rdt_lt hcv hn hg; omega, by have := rdt_lt hcv hn hg; have := hb.size; omega⟩, by omega⟩
theorem Ready.ringFirst {w a x : World} {code : List OpD} {cv : Value} {rb f : Nat} {c : Array Value} (hr : Ring a rb [] c f) (hge : w.heap.size ≤ rb) (hs : w.heap.size ≤ a.heap.size) (hcv : RdT encOp x 6 cv code) (hfr : ∀ g, cv.ownBlock = some g → a.heap.size ≤ g) (hb : Below a.heap.size a x) (hbx : Below w.heap.size w x) : Ready w x code cv rb :=
  ⟨hcv, ⟨c, f, hr.keep (hb.block _ hr.lt)⟩, hbx, fun g hn hg => ⟨by have := hfr g hg; omega, by have := hfr g hg; have := hr.lt; omega, rdt_lt hcv hn hg⟩, hge⟩
theorem MAt.pushed (h : MAt w base b own mm xs mv tv ev) {x w9 : World} {code : List OpD} {ao ao9 : Option Addr} {n cp cp9 rb : Nat} {o : Obj} (hr : Ready w x code (.slice ao n cp) rb)
    (h1 : w9.ownsRow base 361 13 (.slice ao9 (xs.length + 1) cp9) (xs.length + 1) (xs.flatMap encX ++ encX (newX code (.slice ao n cp) rb)))
    (h2 : ∀ g, (Value.slice ao9 (xs.length + 1) cp9).ownBlock = some g → tv.ownBlock = some g ∨ (x.alloc o).heap.size ≤ g) (h3 : (x.alloc o).grownBy w9 tv.ownBlock) :
    MAt (w9.setCell ⟨b, 2, none⟩ (.slice ao9 (xs.length + 1) cp9)) base b (pushT own (.slice ao9 (xs.length + 1) cp9) (.slice ao n cp) code rb xs.length w.heap.size) { mm with ths := mm.ths ++ [MT.new code] } (xs ++ [newX code (.slice ao n cp) rb]) mv (.slice ao9 (xs.length + 1) cp9) ev ∧
      Chg (fun k => k = b ∨ tv.ownBlock = some k) w (w9.setCell ⟨b, 2, none⟩ (.slice ao9 (xs.length + 1) cp9)) := by
  have hsx := hr.below.size
  have hxs : (x.alloc o).heap.size = x.heap.size + 1 := World.size_alloc _ _
  have hg0 : Chg (fun k => tv.ownBlock = some k) w w9 := Chg.grown (S := fun k => tv.ownBlock = some k) ((Chg.of_below hr.below).alloc o) h3 (fun k hk => .inl hk)
  have hgx : Chg (fun k => tv.ownBlock = some k) x w9 := Chg.grown (S := fun k => tv.ownBlock = some k) ((Chg.refl _ x).alloc o) h3 (fun k hk => .inl hk)
  obtain ⟨c, f, hring⟩ := hr.ring
  have htl : ∀ g, tv.ownBlock = some g → g < w.heap.size := fun g hg => (rowLt h.ths hg).2
  refine ⟨h.push hg0 (hr.rd.keepN fun g hn hg hl => hgx.block g hl (fun e => ?_)) (fun g hn hg => (hr.fresh g hn hg).1) (hring.keep (hgx.block _ hring.lt (fun e => ?_))) hr.rfresh ?_ (fun g hg => ?_) (fun g hn hg => ⟨(hr.fresh g hn hg).2.1, fun e => ?_⟩) (fun e => ?_), ?_⟩
  · have := htl g e; have := (hr.fresh g hn hg).1; omega
  · have := htl _ e; have := hr.rfresh; omega
  · rw [List.flatMap_append]
    simpa using h1
  · rcases h2 g hg with e | e
    · exact .inl e
    · exact .inr (by omega)
  · have h5 := hr.fresh g hn hg
    rcases h2 g e with e' | e'
    · have := htl g e'; omega
    · omega
  · have h5 := hring.lt
    have h6 := hr.rfresh
    rcases h2 _ e with e' | e'
    · have := htl _ e'; omega
    · omega
  · exact (hg0.imp (T := fun k => k = b ∨ tv.ownBlock = some k) (fun k _ e => .inr e)).setCell (p := ⟨b, 2, none⟩) (.inl (.inl rfl)) _
end
end Go.Proofs.YtgodmogkhgilmaaGreatDoor

/- The document's turnstileref21.Run. -/
import Derived.Test.YthmmbldhbdnfpaaGreatDoorMRefL
import Derived.Test.YthmmbldhbdnfpaaGreatDoorRefJ
import Derived.Test.YthmmbldhbdnfpaaGreatDoorMPlayA
namespace Go.Proofs.YthmmbldhbdnfpaaGreatDoor
open Go.RowKit
set_option linter.unusedVariables false
set_option linter.unusedSimpArgs false

variable {w w' : World} {base b N : Nat} {mm : MM}

/-- what a pick asks for, once: the machine and the steps that were made -/
def stepR (th : Int) (s : MM × Int) : MM × Int := ((s.1.step th).2, if (s.1.step th).1 = true then s.2 + 1 else s.2)
def flushR (th : Int) (s : MM × Int) : MM × Int := ((s.1.flush th).2, s.2)
def onceR (p : PickD) (s : MM × Int) : MM × Int :=
  if p.kind = 1 then flushR p.th s else if p.kind = 0 then stepR p.th s else flushR p.th (stepR p.th s)
def timesR (p : PickD) : Nat → MM × Int → MM × Int
  | 0, s => s
  | k + 1, s => onceR p (timesR p k s)
def actsR (l : List PickD) (s : MM × Int) : MM × Int := l.foldl (fun s p => timesR p p.n.toNat s) s
theorem actsR_snoc (l : List PickD) (p : PickD) (s : MM × Int) : actsR (l ++ [p]) s = timesR p p.n.toNat (actsR l s) := by simp [actsR]
theorem stepR_le (th : Int) (s : MM × Int) : s.2 ≤ (stepR th s).2 ∧ (stepR th s).2 ≤ s.2 + 1 := by
  unfold stepR
  simp only
  split <;> omega
theorem onceR_le (p : PickD) (s : MM × Int) : s.2 ≤ (onceR p s).2 ∧ (onceR p s).2 ≤ s.2 + 1 := by
  have := stepR_le p.th s
  unfold onceR flushR
  split
  · simp only; omega
  · split
    · exact this
    · exact this

/-- a pick, once -/
theorem RLive.mono {M : Nat} (h : RLive w base b mm N) (hN : N ≤ M) : RLive w base b mm M := by
  obtain ⟨own, xs, mv, tv, ev, h1, h2⟩ := h
  exact ⟨own, xs, mv, tv, ev, h1, h2.mono hN⟩

theorem ROff.mono1 {P : List Nat} (h : ROff w base b mm N P) : ROff w base b mm (N + 1) P := by
  obtain ⟨own, xs, mv, tv, ev, h1, h2, h3⟩ := h
  exact ⟨own, xs, mv, tv, ev, h1, h2.mono (by omega), h3⟩
theorem cell_other3R {w : World} {a q o : Nat} {v : Value} (h : w.cell? ⟨a, o, none⟩ = some v) (hne : a ≠ q) (u0 u1 u2 : Value) : (((w.setCell ⟨q, 0, none⟩ u0).setCell ⟨q, 1, none⟩ u1).setCell ⟨q, 2, none⟩ u2).cell? ⟨a, o, none⟩ = some v := by
  rw [World.cell?_of_block (w := w) (((Below.heap_setCell _ _ _ _ hne).trans (Below.heap_setCell _ _ _ _ hne)).trans (Below.heap_setCell _ _ _ _ hne))]; exact h
def RRun (S : MM × Int) (w : World) (e : Ending) (w' : World) : Prop :=
  ∃ v ls ao cap, e = .returned (.tuple #[.agg #[v, .slice ao S.1.evs.length cap, .int .i64 S.2], .int .i64 0]) ∧ SeenAt w' v ls ∧ ls.map (fun s => (s.out, s.fin)) = S.1.ths.map (fun t => (t.out, t.fin)) ∧
    RdT encEv w' 4 (.slice ao S.1.evs.length cap) S.1.evs ∧ Below w.heap.size w w'

set_option maxRecDepth 100000 in
set_option maxHeartbeats 4000000 in
theorem rrun_yes {ca cca : Option Addr} {ccap ccca : Nat} {l : List (Value × List OpD)} {cs : List (Int × Int)} (h : CodeAt w (.slice ca l.length ccap) l) (hc : RdT encCell w 2 (.slice cca cs.length ccca) cs) (mem : Int) (hl : l.length ≤ 6000000000000) (hcl : cs.length ≤ 9000000000000) (hol : ∀ p ∈ l, p.2.length ≤ 9000000000000) (hk : checkM mem l cs = 0)
    {so : Option Addr} {sc : Nat} {sl : List PickD} (hs : RdT encPk w 3 (.slice so sl.length sc) sl) (hsn : ∀ p ∈ sl, 0 ≤ p.kind ∧ (-9223372036854775808 ≤ p.n ∧ p.n ≤ 9223372036854775807)) (hlen : (lengthS sl).2 = 0) (hmk : MOk 0 (newM mem (l.map (·.2)) cs)) :
    Calls Tryz.prog 23 #[.agg #[.slice ca l.length ccap, .int .i64 mem, .slice cca cs.length ccca], .slice so sl.length sc] w (RRun (actsR sl (newM mem (l.map (·.2)) cs, 0)) w) := by
  have H := hidI h
  have HC := hidI hc
  have HL := hidI hl
  have HCL := hidI hcl
  have HOL := hidI hol
  have HK := hidI hk
  have HS := hidI hs
  have HSN := hidI hsn
  have HLEN := hidI (lengthS_ok hlen)
  have HLE := hidI hlen
  have HMK := hidI hmk
  clear hmk
  clear h hc hl hcl hol hk hs hsn hlen
  go_enter Tryz.func23, Tryz.ntmps23
  have hb0 : Below w.heap.size w ((w.alloc (.cells #[.slice ca l.length ccap, .int .i64 mem, .slice cca cs.length ccca] 25)).alloc (.cells #[.slice none 0 0, .slice none 0 0, .int .i64 0] 60)) := ((Below.refl _ _).alloc (Nat.le_refl _) _).alloc (by simp) _
  have HB0 := hidI hb0
  clear hb0
  go_wp2_with fail
  refine (rnew_yes (H.out.below HB0.out) (Rd.below HC.out HB0.out) mem HL.out HCL.out HOL.out HK.out).mono ?_
  rintro e w1 ⟨b, own, xs, mv, tv, ev, rfl, hr, hb⟩
  have HR := hidI (RLive.of hr HMK.out)
  have HB1 := hidI (bnext HB0.out hb)
  have HT1 := hidI (blk hb (block_new2 w (.cells #[.slice ca l.length ccap, .int .i64 mem, .slice cca cs.length ccca] 25) (.cells #[.slice none 0 0, .slice none 0 0, .int .i64 0] 60)))
  clear hr hb
  go_wp2_with fail
  refine (lengthR_any (Rd.below HS.out HB1.out) (by have := HLEN.out.1; omega)).mono ?_
  rintro e w2 ⟨rfl, hb⟩
  rw [HLE.out]
  have HR2 := hidI (HR.out.below hb)
  have HB2 := hidI (bnext HB1.out hb)
  have HT2 := hidI (blk hb HT1.out)
  clear hb
  obtain ⟨B, hB⟩ : ∃ B, B = ((w.alloc (.cells #[.slice ca l.length ccap, .int .i64 mem, .slice cca cs.length ccca] 25)).alloc (.cells #[.slice none 0 0, .slice none 0 0, .int .i64 0] 60)).heap.size := ⟨_, rfl⟩
  have HR3 : Hid (RLive w2 B b (newM mem (l.map (·.2)) cs) 0) := hidI (by rw [hB]; exact HR2.out)
  have HBW := hidI (show w.heap.size + 2 = B from by rw [hB]; simp)
  clear hB
  go_wp2_with fail
  generalize hM : newM mem (l.map (·.2)) cs = M0 at *
  go_loopw [8, 9] (fun st i w' => ∃ k : Nat, k ≤ sl.length ∧ i = .int .i64 (k : Int) ∧ st = .int .i64 (actsR (sl.take k) (M0, 0)).2 ∧ Hid (∃ T : Nat, (T : Int) ≤ total (sl.take k) ∧ ROff w' B b (actsR (sl.take k) (M0, 0)).1 T [] ∧ 0 ≤ (actsR (sl.take k) (M0, 0)).2 ∧ (actsR (sl.take k) (M0, 0)).2 ≤ T) ∧ Hid (Below B w2 w')) (fun st i _ => ((sl.length : Int) - intOf i).toNat)
  case atStart => exact ⟨0, by omega, rfl, rfl, hidI ⟨0, by simp [total], ROff.of_live HR3.out, by simp [actsR], by simp [actsR]⟩, hidI (Below.refl _ _)⟩
  case round =>
    obtain ⟨k, hk, rfl, rfl, HT, HW⟩ := hrel
    have hsl := HLEN.out.1
    by_cases hlt : k < sl.length
    · obtain ⟨p, hp⟩ := some_at hlt
      have hbw : Below w.heap.size w wr := HB2.out.trans (HW.out.mono (by have := HBW.out; omega))
      obtain ⟨b1, o1, e1, hs1, hc1⟩ := RdT.at encPk_len (Rd.below HS.out hbw) hp
      subst e1
      have x0 := hc1 0 _ rfl
      have x1 := hc1 1 _ rfl
      have x2 := hc1 2 _ rfl
      simp only [Nat.add_zero] at x0
      have hbx : pbad p = false := by
        have := List.any_eq_false.1 HLEN.out.2.1 p (List.mem_of_getElem? hp)
        simpa using this
      have hp2 : p.kind ≤ 2 ∧ 0 ≤ p.n := by unfold pbad at hbx; simp at hbx; omega
      have hp0 := (HSN.out p (List.mem_of_getElem? hp)).1
      have HP := hidI hp
      have HBWR := hidI hbw
      generalize hS : actsR (sl.take k) (M0, 0) = S at *
      clear hc1 hs1 hbx hp hbw
      obtain ⟨w3, rfl⟩ : ∃ x, x = wr := ⟨_, rfl⟩
      obtain ⟨T, hT, hQ, hs0, hsT⟩ := HT.out
      have hpn : p.n ≤ 1048576 ∧ total (sl.take k) + p.n ≤ 1048576 := by
        have h1 := total_app (sl.take k) (sl.drop k)
        rw [List.take_append_drop] at h1
        have h2 : sl.drop k = p :: sl.drop (k + 1) := by
          obtain ⟨hl, he⟩ := List.getElem?_eq_some_iff.1 HP.out
          rw [← he]; exact List.drop_eq_getElem_cons hl
        have h3 : total (sl.drop k) = plen p + total (sl.drop (k + 1)) := by rw [h2]; simp [total]
        have h4 : 0 ≤ total (sl.drop (k + 1)) := total_ge (List.any_eq_false.2 fun y hy => List.any_eq_false.1 HLEN.out.2.1 y (List.mem_of_mem_drop hy))
        have h5 : 0 ≤ total (sl.take k) := total_ge (List.any_eq_false.2 fun y hy => List.any_eq_false.1 HLEN.out.2.1 y (List.mem_of_mem_take hy))
        have h6 := HLEN.out.2.2.1
        have h7 : min p.n 1048577 ≤ plen p := by unfold plen; split <;> omega
        omega
      have hstep : total (sl.take k) + p.n ≤ total (sl.take (k + 1)) := by
        rw [take_snoc HP.out, total_snoc]
        have h7 : min p.n 1048577 ≤ plen p := by unfold plen; split <;> omega
        omega
      have HSTEP := hidI hstep
      have hpn1 := hpn.1
      have HPN := hidI hpn.2
      have HI0 : Hid (∃ T : Nat, (T : Int) ≤ total (sl.take k) + (0 : Nat) ∧ ROff (w3.alloc (.cells (encPk p).toArray 169)) B b (timesR p 0 S).1 T [w3.heap.size] ∧ 0 ≤ (timesR p 0 S).2 ∧ (timesR p 0 S).2 ≤ T) := hidI ⟨T, by simpa using hT, hQ.add _, hs0, hsT⟩
      have HI1 : Hid (Below B w2 (w3.alloc (.cells (encPk p).toArray 169)) ∧ (w3.alloc (.cells (encPk p).toArray 169)).heap[w3.heap.size]? = some (.cells (encPk p).toArray 169 (0, 0))) := hidI ⟨HW.out.alloc hQ.live.base_le _, block_new _ _⟩
      clear hT hQ hs0 hsT hstep hpn
      go_wp2_with fail
      go_loopw [8, 11] (fun st j w' => ∃ m : Nat, (m : Int) ≤ p.n ∧ j = .int .i64 (m : Int) ∧ st = .int .i64 (timesR p m S).2 ∧ Hid (∃ T : Nat, (T : Int) ≤ total (sl.take k) + (m : Nat) ∧ ROff w' B b (timesR p m S).1 T [w3.heap.size] ∧ 0 ≤ (timesR p m S).2 ∧ (timesR p m S).2 ≤ T) ∧ Hid (Below B w2 w' ∧ w'.heap[w3.heap.size]? = some (.cells (encPk p).toArray 169 (0, 0)))) (fun st j _ => (p.n - intOf j).toNat)
      case atStart => exact ⟨0, by have := hp2.2; omega, rfl, rfl, HI0, HI1⟩
      case round =>
        obtain ⟨m, hm, rfl, rfl, HTI, HWI⟩ := hrel
        obtain ⟨T, hT, hQ, hs0, hsT⟩ := HTI.out
        have q0 : wr.cell? ⟨w3.heap.size, 0, none⟩ = some (.int .u8 p.kind) := cell_of_block HWI.out.2 rfl
        have q1 : wr.cell? ⟨w3.heap.size, 1, none⟩ = some (.int .i64 p.th) := cell_of_block HWI.out.2 rfl
        have q2 : wr.cell? ⟨w3.heap.size, 2, none⟩ = some (.int .i64 p.n) := cell_of_block HWI.out.2 rfl
        have hnx : timesR p (m + 1) S = onceR p (timesR p m S) := rfl
        generalize hRe : timesR p m S = R at *
        have HRE := hidI hRe
        clear hRe
        have HNX := hidI hnx
        have HQ := hidI hQ
        have HTT := hidI hT
        have hR9 : R.2 ≤ 2000000 := by have := HPN.out; omega
        clear hnx hQ hT HTI
        by_cases hlm : (m : Int) < p.n
        · by_cases hkk : p.kind = 1
          · rw [hkk] at q0
            have HKK := hidI hkk
            clear hkk
            go_wp2_with fail
            refine (rflush_o HQ.out p.th).mono ?_
            rintro r w5 ⟨rfl, hq, hbq, hpq⟩
            have HQ5 := hidI hq
            have HB5 := hidI (HWI.out.1.trans hbq)
            have HP5 := hidI ((hpq w3.heap.size (by simp)).trans HWI.out.2)
            have q0 : w5.cell? ⟨w3.heap.size, 0, none⟩ = some (.int .u8 1) := by rw [← HKK.out]; exact cell_of_block HP5.out rfl
            have q1 : w5.cell? ⟨w3.heap.size, 1, none⟩ = some (.int .i64 p.th) := cell_of_block HP5.out rfl
            have q2 : w5.cell? ⟨w3.heap.size, 2, none⟩ = some (.int .i64 p.n) := cell_of_block HP5.out rfl
            clear hq hbq hpq
            go_wp2_with fail
            have HQ5m := hidI (ROff.mono1 HQ5.out)
            exact ⟨⟨m + 1, by omega, by go_num, by rw [HNX.out]; simp [onceR, HKK.out, flushR, stepR], hidI ⟨T + 1, by have := HTT.out; omega, by rw [HNX.out]; simpa [onceR, HKK.out, flushR, stepR] using (HQ5m).out, by rw [HNX.out]; have := onceR_le p R; omega, by rw [HNX.out]; have := onceR_le p R; omega⟩, hidI ⟨HB5.out, HP5.out⟩⟩, by simp [intOf]; omega⟩
          · by_cases hk0 : p.kind = 0
            · have hkk := hk0
              clear hk0
              rw [hkk] at q0
              have HKK := hidI hkk
              clear hkk
              go_wp2_with fail
              refine (rstep_o HQ.out (by have := HTT.out; have := HPN.out; omega) p.th).mono ?_
              rintro r w5 ⟨rfl, hq, hbq, hpq⟩
              have HQ5 := hidI hq
              have HB5 := hidI (HWI.out.1.trans hbq)
              have HP5 := hidI ((hpq w3.heap.size (by simp)).trans HWI.out.2)
              have q0 : w5.cell? ⟨w3.heap.size, 0, none⟩ = some (.int .u8 0) := by rw [← HKK.out]; exact cell_of_block HP5.out rfl
              have q1 : w5.cell? ⟨w3.heap.size, 1, none⟩ = some (.int .i64 p.th) := cell_of_block HP5.out rfl
              have q2 : w5.cell? ⟨w3.heap.size, 2, none⟩ = some (.int .i64 p.n) := cell_of_block HP5.out rfl
              clear hq hbq hpq
              cases hsb : (R.1.step p.th).1 with
              | true =>
                have HSB := hidI hsb
                clear hsb
                go_wp2_with fail
                exact ⟨⟨m + 1, by omega, by go_num, by rw [HNX.out]; simp [onceR, HKK.out, flushR, stepR, HSB.out], hidI ⟨T + 1, by have := HTT.out; omega, by rw [HNX.out]; simpa [onceR, HKK.out, flushR, stepR] using HQ5.out, by rw [HNX.out]; have := onceR_le p R; omega, by rw [HNX.out]; have := onceR_le p R; omega⟩, hidI ⟨HB5.out, HP5.out⟩⟩, by simp [intOf]; omega⟩
              | false =>
                have HSB := hidI hsb
                clear hsb
                go_wp2_with fail
                exact ⟨⟨m + 1, by omega, by go_num, by rw [HNX.out]; simp [onceR, HKK.out, flushR, stepR, HSB.out], hidI ⟨T + 1, by have := HTT.out; omega, by rw [HNX.out]; simpa [onceR, HKK.out, flushR, stepR] using HQ5.out, by rw [HNX.out]; have := onceR_le p R; omega, by rw [HNX.out]; have := onceR_le p R; omega⟩, hidI ⟨HB5.out, HP5.out⟩⟩, by simp [intOf]; omega⟩
            · have hkk : p.kind = 2 := by omega
              rw [hkk] at q0
              have HKK := hidI hkk
              clear hkk
              go_wp2_with fail
              refine (rstep_o HQ.out (by have := HTT.out; have := HPN.out; omega) p.th).mono ?_
              rintro r w5 ⟨rfl, hq, hbq, hpq⟩
              have HQ5 := hidI hq
              have HB5 := hidI (HWI.out.1.trans hbq)
              have HP5 := hidI ((hpq w3.heap.size (by simp)).trans HWI.out.2)
              have q0 : w5.cell? ⟨w3.heap.size, 0, none⟩ = some (.int .u8 2) := by rw [← HKK.out]; exact cell_of_block HP5.out rfl
              have q1 : w5.cell? ⟨w3.heap.size, 1, none⟩ = some (.int .i64 p.th) := cell_of_block HP5.out rfl
              have q2 : w5.cell? ⟨w3.heap.size, 2, none⟩ = some (.int .i64 p.n) := cell_of_block HP5.out rfl
              clear hq hbq hpq
              cases hsb : (R.1.step p.th).1 with
              | true =>
                have HSB := hidI hsb
                clear hsb
                go_wp2_with fail
                refine (rflush_o HQ5.out p.th).mono ?_
                rintro r w6 ⟨rfl, hq, hbq, hpq⟩
                have HQ6 := hidI hq
                have HB6 := hidI (HB5.out.trans hbq)
                have HP6 := hidI ((hpq w3.heap.size (by simp)).trans HP5.out)
                have q0 : w6.cell? ⟨w3.heap.size, 0, none⟩ = some (.int .u8 2) := by rw [← HKK.out]; exact cell_of_block HP6.out rfl
                have q1 : w6.cell? ⟨w3.heap.size, 1, none⟩ = some (.int .i64 p.th) := cell_of_block HP6.out rfl
                have q2 : w6.cell? ⟨w3.heap.size, 2, none⟩ = some (.int .i64 p.n) := cell_of_block HP6.out rfl
                clear hq hbq hpq
                go_wp2_with fail
                exact ⟨⟨m + 1, by omega, by go_num, by rw [HNX.out]; simp [onceR, HKK.out, flushR, stepR, HSB.out], hidI ⟨T + 1, by have := HTT.out; omega, by rw [HNX.out]; simpa [onceR, HKK.out, flushR, stepR] using HQ6.out, by rw [HNX.out]; have := onceR_le p R; omega, by rw [HNX.out]; have := onceR_le p R; omega⟩, hidI ⟨HB6.out, HP6.out⟩⟩, by simp [intOf]; omega⟩
              | false =>
                have HSB := hidI hsb
                clear hsb
                go_wp2_with fail
                refine (rflush_o HQ5.out p.th).mono ?_
                rintro r w6 ⟨rfl, hq, hbq, hpq⟩
                have HQ6 := hidI hq
                have HB6 := hidI (HB5.out.trans hbq)
                have HP6 := hidI ((hpq w3.heap.size (by simp)).trans HP5.out)
                have q0 : w6.cell? ⟨w3.heap.size, 0, none⟩ = some (.int .u8 2) := by rw [← HKK.out]; exact cell_of_block HP6.out rfl
                have q1 : w6.cell? ⟨w3.heap.size, 1, none⟩ = some (.int .i64 p.th) := cell_of_block HP6.out rfl
                have q2 : w6.cell? ⟨w3.heap.size, 2, none⟩ = some (.int .i64 p.n) := cell_of_block HP6.out rfl
                clear hq hbq hpq
                go_wp2_with fail
                exact ⟨⟨m + 1, by omega, by go_num, by rw [HNX.out]; simp [onceR, HKK.out, flushR, stepR, HSB.out], hidI ⟨T + 1, by have := HTT.out; omega, by rw [HNX.out]; simpa [onceR, HKK.out, flushR, stepR] using HQ6.out, by rw [HNX.out]; have := onceR_le p R; omega, by rw [HNX.out]; have := onceR_le p R; omega⟩, hidI ⟨HB6.out, HP6.out⟩⟩, by simp [intOf]; omega⟩
        · have hmm : (m : Int) = p.n := by omega
          have HACT := hidI (show actsR (sl.take (k + 1)) (M0, 0) = R from by
            rw [take_snoc HP.out, actsR_snoc, hS, show p.n.toNat = m from by omega]
            exact HRE.out)
          have HMM := hidI hmm
          clear hmm
          go_wp2_with fail
          exact ⟨⟨k + 1, by omega, by go_num, by rw [HACT.out], hidI ⟨T, by have := HTT.out; have := HSTEP.out; have := HMM.out; omega, by rw [HACT.out]; exact ROff.of_live HQ.out.live, by rw [HACT.out]; exact hs0, by rw [HACT.out]; exact hsT⟩, hidI HWI.out.1⟩, by simp [intOf]; omega⟩
    · obtain rfl : k = sl.length := by omega
      rw [List.take_length] at HT
      obtain ⟨T, hT, hQ, hs0, hsT⟩ := HT.out
      obtain ⟨w3, rfl⟩ : ∃ x, x = wr := ⟨_, rfl⟩
      rw [List.take_length]
      generalize hS : actsR sl (M0, 0) = S at *
      obtain ⟨eo, ec, hev, hown⟩ := hQ.live.events
      have HQL := hidI hQ.live
      have HOWN := hidI hown
      have hT3 : w3.heap[w.heap.size + 1]? = some (.cells #[.slice none 0 0, .slice none 0 0, .int .i64 0] 60 (0, 0)) := by
        rw [HW.out.block _ (by have := HBW.out; omega)]
        simpa using HT2.out
      have HT3 := hidI hT3
      have HBWR := hidI (HB2.out.trans (HW.out.mono (by have := HBW.out; omega)))
      have hbe : b ≠ w.heap.size + 1 := by
        obtain ⟨own, xs, mv, tv, ev, h1, -, -⟩ := hQ
        have := h1.bT.1
        have := HBW.out
        omega
      clear hT hQ hs0 hsT hown hT3 HT
      go_wp2_with fail
      go_region_held3 (fun w' => w'.cell? ⟨b, 2, none⟩ = some (.slice eo S.1.evs.length ec)) (first | exact hev | exact cell_later HB6.out hev | (simp only [World.cell?_drew]; assumption) | exact cell_other3R (cell_later HB6.out hev) hbe _ _ _) (first | (go_at_call 69; refine (rseen_o (HQL.out.below (Below.refl w3.heap.size w3).drew)).mono ?_; rintro e w6 ⟨v, ls, rfl, hsa, hse, hms, hb6⟩; obtain ⟨sa, sn, rfl⟩ := ownsRow_shape hsa; have HB6 := hidI ((Below.refl w3.heap.size w3).drew.trans hb6); have HSA := hidI hsa; have HSE := hidI hse; have HMS := hidI hms; have hz := blk HB6.out HT3.out; have z0 : w6.cell? ⟨w.heap.size + 1, 0, none⟩ = some (.slice none 0 0) := cell_of_block hz rfl; have z1 : w6.cell? ⟨w.heap.size + 1, 1, none⟩ = some (.slice none 0 0) := cell_of_block hz rfl; have z2 : w6.cell? ⟨w.heap.size + 1, 2, none⟩ = some (.int .i64 0) := cell_of_block hz rfl; have zf0 : w6.frozen? ⟨w.heap.size + 1, 0, none⟩ = false := free_of_block hz; have zf1 : w6.frozen? ⟨w.heap.size + 1, 1, none⟩ = false := free_of_block hz; have zf2 : w6.frozen? ⟨w.heap.size + 1, 2, none⟩ = false := free_of_block hz; have HZ := hidI hz; clear hsa hse hms hb6 hz; dsimp only))
      go_wp2_with fail
      have hr3 := block_setCell (o := 2) (.int .i64 S.2) (block_setCell (o := 1) (.slice eo S.1.evs.length ec) (block_setCell (o := 0) (.slice sa ls.length sn) HZ.out))
      have hq : ∀ g, g ≠ w.heap.size + 1 → (((w6.setCell ⟨w.heap.size + 1, 0, none⟩ (.slice sa ls.length sn)).setCell ⟨w.heap.size + 1, 1, none⟩ (.slice eo S.1.evs.length ec)).setCell ⟨w.heap.size + 1, 2, none⟩ (.int .i64 S.2)).heap[g]? = w6.heap[g]? := fun g hg => ((Below.heap_setCell _ _ _ _ hg).trans (Below.heap_setCell _ _ _ _ hg)).trans (Below.heap_setCell _ _ _ _ hg)
      have hbf : Below w.heap.size w (((w6.setCell ⟨w.heap.size + 1, 0, none⟩ (.slice sa ls.length sn)).setCell ⟨w.heap.size + 1, 1, none⟩ (.slice eo S.1.evs.length ec)).setCell ⟨w.heap.size + 1, 2, none⟩ (.int .i64 S.2)) :=
        (((bnext HBWR.out HB6.out).setCell (by simp) _).setCell (by simp) _).setCell (by simp) _
      refine bodyPost_ret (v := .tuple #[.agg #[.slice sa ls.length sn, .slice eo S.1.evs.length ec, .int .i64 S.2], .int .i64 0]) ?_ rfl ?_
      · have c0 := cell_of_block (o := 0) hr3 rfl
        have c1 := cell_of_block (o := 1) hr3 rfl
        have c2 := cell_of_block (o := 2) hr3 rfl
        simp [results, Tryz.results23, go_sem, c0, c1, c2]
      · unfold RRun
        rw [hM, hS]
        refine ⟨_, ls, eo, ec, rfl, ?_, HMS.out, ?_, hbf⟩
        · exact ⟨Rd.of_own (ownRow_keep HSA.out fun g hg hl => hq g (by have h1 := (rowLt HSA.out hg).1; have h2 := lt_of_block HT3.out; have h3 : w3.drew.heap.size = w3.heap.size := rfl; omega)), fun s hs => Rd.of_own (ownRow_keep (HSE.out s hs) fun g hg hl => hq g (by have h1 := (rowLt (HSE.out s hs) hg).1; have := HBW.out; omega))⟩
        · exact Rd.of_own (ownRow_keep HOWN.out fun g hg hl => (hq g (by have h1 := (rowLt HOWN.out hg).1; have := HBW.out; omega)).trans (HB6.out.block g hl))
end Go.Proofs.YthmmbldhbdnfpaaGreatDoor

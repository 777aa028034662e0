/- PlayByHand: a script is its steps and flushes. -/
import Derived.Test.YtnechkhgceeejaaPlayL
import Derived.Test.YtnechkhgceeejaaPlayF
namespace Go.Proofs.Ytnechkhgceeejaa
open Go.RowKit
set_option linter.unusedVariables false
set_option linter.unusedSimpArgs false

variable {w w' : World}

def PickOk (p : PickD) : Prop := (0 ≤ p.kind ∧ p.kind < 256) ∧ in64 p.th ∧ in64 p.n
set_option maxRecDepth 100000 in
theorem pick_elem {H : Type} {enc : TypeId × Value → H} {w : World} {held : Bool} (fuel : Nat) (cs : List Value) (x : DataW H × List MemPlace) (h : DataW.trod enc Try.prog w 0 (fun _ => true) held fuel 85 cs = some x) : ∃ a, cs = encPk a ∧ PickOk a := by
  obtain ⟨xs, n, _, rfl, hl, hlen, hf⟩ := DataW.trod_struct Try.underlying85 h
  rw [show Try.prog.cellsOf 85 = 3 from by kernel_rfl] at hl
  match xs, hlen with
  | [y0, y1, y2], _ =>
  have e1 : Try.prog.cellsOf 83 = 1 := by kernel_rfl
  have e2 : Try.prog.cellsOf 3 = 1 := by kernel_rfl
  obtain ⟨v0, h0, -, w0⟩ := DataW.trod_int Try.underlying83 (hf 0 _ rfl)
  obtain ⟨v1, h1, -, w1⟩ := DataW.trod_int Try.underlying3 (hf 1 _ rfl)
  obtain ⟨v2, h2, -, w2⟩ := DataW.trod_int Try.underlying3 (hf 2 _ rfl)
  match cs, hl with
  | [c0, c1, c2], _ =>
    simp [e1] at h0
    simp [e2] at h1 h2
    exact ⟨⟨v0, v1, v2⟩, by simp [encPk, h0, h1, h2], wf8T w0, wf_i64 w1, wf_i64 w2⟩

theorem MOff.incr {base b N : Nat} {mm : MM} {P : List Nat} (h : MOff w base b mm N P) : MOff w base b mm (N + 1) P := by
  obtain ⟨own, xs, mv, tv, ev, hm, hl, hk, hp⟩ := h
  exact ⟨own, xs, mv, tv, ev, hm, hl, hk.mono (by omega), hp⟩
/-- a machine lives beside all that was made behind it -/
theorem MOff.band {w1 w2 : World} {base b N : Nat} {own : Nat → Nat} {mm : MM} {xs : List TX} {mv tv ev : Value} (h : MAt w1 base b own mm xs mv tv ev) (hk : MOk N mm) (hb : Below w1.heap.size w1 w2) : MOff w2 base b mm N (List.range' w1.heap.size (w2.heap.size - w1.heap.size)) := by
  refine ⟨_, _, _, _, _, (h.low).below hb, fun k hn => ?_, hk, fun k hk' => ?_⟩
  · rcases Nat.lt_or_ge k base with e | e
    · exact absurd (if_pos e) hn
    · exact e
  · rw [List.mem_range'_1] at hk'
    have := hb.size
    exact ⟨h.low.fresh k hk'.1, by omega⟩

set_option maxRecDepth 100000 in
set_option maxHeartbeats 1000000 in
theorem byhand_any {ca cca sa : Option Addr} {ccap ccca scap : Nat} {l : List (Value × List OpD)} {cs : List (Int × Int)} {sc : List PickD} {mem : Int} (h : CodeAt w (.slice ca l.length ccap) l) (hc : RdT encCell w 2 (.slice cca cs.length ccca) cs) (hs : RdT encPk w 3 (.slice sa sc.length scap) sc)
    (hl : l.length ≤ 9223372036854775807) (hcl : cs.length ≤ 9223372036854775807) (hol : ∀ p ∈ l, p.2.length ≤ 9223372036854775807) (hsl : sc.length ≤ 9223372036854775807) (hok : ∀ p ∈ sc, PickOk p) :
    Calls Try.prog 7 #[.agg #[.slice ca l.length ccap, .int .i64 mem, .slice cca cs.length ccca], .slice sa sc.length scap] w fun e w' => e = .returned (.bool true) ∧ Below w.heap.size w w' := by
  have H := hidI h
  have HC := hidI hc
  have HS := hidI hs
  have HL := hidI hl
  have HCL := hidI hcl
  have HOL := hidI hol
  have HSL := hidI hsl
  have HOK := hidI hok
  clear h hc hs hl hcl hol hsl hok
  go_enter Try.func7, Try.ntmps7
  go_wp2_with fail
  have hb0 : Below w.heap.size w (w.alloc (.cells #[.slice ca l.length ccap, .int .i64 mem, .slice cca cs.length ccca] 56)) := (Below.refl _ _).alloc (Nat.le_refl _) _
  have hbox := block_new w (.cells #[.slice ca l.length ccap, .int .i64 mem, .slice cca cs.length ccca] 56)
  have H0 := hidI (H.out.below hb0)
  have HC0 := hidI (Rd.below HC.out hb0)
  have HS0 := hidI (Rd.below HS.out hb0)
  have HB0 := hidI hb0
  have HX0 := hidI hbox
  clear hb0 hbox
  refine (imageSize_any (cca := cca) (ccca := ccca) (cs := cs) H0.out mem HL.out HCL.out HOL.out).mono ?_
  rintro e w1 ⟨z, rfl, hz, hzl, hb⟩
  have HZ := hidI hz
  have HZL := hidI hzl
  have HC1 := hidI (H0.out.below hb)
  have HCC1 := hidI (Rd.below HC0.out hb)
  have HS1 := hidI (Rd.below HS0.out hb)
  have HB1 := hidI (bnext HB0.out hb)
  have HX1 := hidI (blk hb HX0.out)
  clear hz hzl hb H0 HC0 HS0 HB0 HX0
  go_wp2_with fail
  have hbb : Below w1.heap.size w1 (w1.alloc (.cells #[.int .i64 z, .int .i64 (sc.length : Int)] 3)) := (Below.refl _ _).alloc (Nat.le_refl _) _
  refine (beyond2 (y := z) (z := (sc.length : Int)) (block_new w1 _) (by have := HZ.out; omega) (by have := HSL.out; omega)).mono ?_
  rintro e w2 ⟨r, rfl, hr, hb⟩
  have hb2 := bnext hbb hb
  have HC2 := hidI (HC1.out.below hb2)
  have HCC2 := hidI (Rd.below HCC1.out hb2)
  have HS2 := hidI (Rd.below HS1.out hb2)
  have HB2 := hidI (bnext HB1.out hb2)
  have hx2 := blk hb2 HX1.out
  have HX2 := hidI hx2
  clear hb hbb hb2 HC1 HCC1 HS1 HB1 HX1
  cases r with
  | true =>
    clear hx2
    go_wp2_with fail
    go_ret
    exact ⟨rfl, HB2.out⟩
  | false =>
    have hr' := hr rfl
    have hl2 := HZL.out hr'.1
    have hsc := hr'.2
    have HL2 := hidI hl2
    have hnn : ∀ p ∈ sc, -9223372036854775808 ≤ p.n ∧ 0 ≤ p.kind := fun p hp => ⟨(HOK.out p hp).2.2.1, (HOK.out p hp).1.1⟩
    have HNN := hidI hnn
    have HSC : Hid (sc.length ≤ 262144) := hidI (by omega)
    have m0 : w2.cell? ⟨w.heap.size, 0, none⟩ = some (.slice ca l.length ccap) := cell_of_block hx2 rfl
    have m1 : w2.cell? ⟨w.heap.size, 1, none⟩ = some (.int .i64 mem) := cell_of_block hx2 rfl
    have m2 : w2.cell? ⟨w.heap.size, 2, none⟩ = some (.slice cca cs.length ccca) := cell_of_block hx2 rfl
    clear hr hr' hl2 hsc hnn hx2 HZ HZL
    go_wp2_with fail
    refine (length_any HS2.out (by have := HSC.out; omega) HNN.out).mono ?_
    rintro e w3 ⟨rfl, hb⟩
    have HC3 := hidI (HC2.out.below hb)
    have HCC3 := hidI (Rd.below HCC2.out hb)
    have HS3 := hidI (Rd.below HS2.out hb)
    have HB3 := hidI (bnext HB2.out hb)
    have hx3 := blk hb HX2.out
    have m0 : w3.cell? ⟨w.heap.size, 0, none⟩ = some (.slice ca l.length ccap) := cell_of_block hx3 rfl
    have m1 : w3.cell? ⟨w.heap.size, 1, none⟩ = some (.int .i64 mem) := cell_of_block hx3 rfl
    have m2 : w3.cell? ⟨w.heap.size, 2, none⟩ = some (.slice cca cs.length ccca) := cell_of_block hx3 rfl
    have HX3 := hidI hx3
    clear hb hx3 HC2 HCC2 HS2 HB2 HX2
    obtain ⟨n, hn⟩ : ∃ n, n = (lengthS sc).1 := ⟨_, rfl⟩
    obtain ⟨e1, he1⟩ : ∃ e1, e1 = (lengthS sc).2 := ⟨_, rfl⟩
    rw [← hn, ← he1]
    have HN := hidI hn
    have HE1 := hidI he1
    clear hn he1
    by_cases hk : checkM mem l cs = 0
    · go_wp2_with fail
      refine (new_yes HC3.out HCC3.out mem (by have := HL2.out; omega) (by have := HL2.out; omega) hk).mono ?_
      rintro e w4 ⟨b, own, xs, mv, tv, rfl, hma, hb⟩
      have HMA := hidI hma
      have HC4 := hidI (HC3.out.below hb)
      have HCC4 := hidI (Rd.below HCC3.out hb)
      have HS4 := hidI (Rd.below HS3.out hb)
      have HB4 := hidI (bnext HB3.out hb)
      have hx4 := blk hb HX3.out
      have m0 : w4.cell? ⟨w.heap.size, 0, none⟩ = some (.slice ca l.length ccap) := cell_of_block hx4 rfl
      have m1 : w4.cell? ⟨w.heap.size, 1, none⟩ = some (.int .i64 mem) := cell_of_block hx4 rfl
      have m2 : w4.cell? ⟨w.heap.size, 2, none⟩ = some (.slice cca cs.length ccca) := cell_of_block hx4 rfl
      have HK := hidI hk
      have HMO := hidI (newM_ok HC3.out hk)
      have HW3 := hidI HB3.out.size
      clear hma hb hx4 HC3 HCC3 HS3 HB3 HX3 hk
      by_cases he : e1 = 0
      · subst he
        go_wp2_with fail
        refine (run_yes HC4.out HCC4.out mem (by have := HL2.out; omega) (by have := HL2.out; omega) HK.out HS4.out (by have := HSC.out; omega) HNN.out HE1.out.symm).mono ?_
        rintro e w5 ⟨ga, ls, ve, vec, rfl, hrow, hse, hpw, hms, hev, -, hb5⟩
        obtain ⟨SF, hSF⟩ : ∃ SF, SF = doActs (newM mem (l.map (·.2)) cs, 0) (actsS sc) := ⟨_, rfl⟩
        rw [← hSF] at hms hev ⊢
        have hb6 : Below w5.heap.size w5 (w5.alloc (.cells #[.slice (some ⟨ga, 0, none⟩) ls.length ls.length, .slice ve SF.1.evs.length vec, .int .i64 SF.2] 80)) := (Below.refl _ _).alloc (Nat.le_refl _) _
        have hb46 := bnext hb5 hb6
        have hband := MOff.band HMA.out HMO.out hb46
        have htb := block_new w5 (.cells #[.slice (some ⟨ga, 0, none⟩) ls.length ls.length, .slice ve SF.1.evs.length vec, .int .i64 SF.2] 80)
        have HROW := hidI hrow
        have HSE := hidI hse
        have HMS := hidI hms
        have HEV := hidI hev
        have HSF := hidI hSF
        have HB5 := hidI (bnext HB4.out hb5)
        have HB46 := hidI hb46
        have HBAND := hidI hband
        have HTB := hidI htb
        have HS6 := hidI (Rd.below HS4.out hb46)
        have hs5 := hb5.size
        clear hrow hse hpw hms hev hSF hb5 hb46 hband htb hb6 HMA HMO HC4 HCC4 HS4
        by_cases hbig : n > 20000
        · go_wp2_with fail
          refine (lives21 _).mono ?_
          rintro e w6 ⟨rfl, hb⟩
          have HB6 := hidI (bnextA HB5.out hb)
          clear hb
          go_wp2_with fail
          go_ret
          exact ⟨rfl, HB6.out⟩
        · skip
          -- LOOPS
          go_wp2_with fail
          obtain ⟨Q, hQ⟩ : ∃ Q, Q = List.range' w4.heap.size ((w5.alloc (.cells #[.slice (some ⟨ga, 0, none⟩) ls.length ls.length, .slice ve SF.1.evs.length vec, .int .i64 SF.2] 80)).heap.size - w4.heap.size) := ⟨_, rfl⟩
          rw [← hQ] at HBAND
          have HQ := hidI hQ
          have HB6 := hidI (HB4.out.trans (HB46.out.mono HB4.out.size))
          have HLN := hidI (lengthS_ok HE1.out.symm)
          have hn2 : total sc ≤ 20000 := by have := HLN.out.2.2.2; have := HN.out; omega
          have HTT := hidI hn2
          have hw3 : w.heap.size ≤ w3.heap.size := HW3.out
          clear hQ hn2
          go_loopw [11, 12] (fun s i w' => ∃ k : Nat, k ≤ sc.length ∧ i = .int .i64 (k : Int) ∧ s = .int .i64 (doActs (newM mem (l.map (·.2)) cs, 0) (actsS (sc.take k))).2 ∧ Hid (∃ N' : Nat, (N' : Int) ≤ total (sc.take k) ∧ 0 ≤ (doActs (newM mem (l.map (·.2)) cs, 0) (actsS (sc.take k))).2 ∧ (doActs (newM mem (l.map (·.2)) cs, 0) (actsS (sc.take k))).2 ≤ N' ∧ MOff w' w3.heap.size b (doActs (newM mem (l.map (·.2)) cs, 0) (actsS (sc.take k))).1 N' Q) ∧
            Hid (Stay Q (w5.alloc (.cells #[.slice (some ⟨ga, 0, none⟩) ls.length ls.length, .slice ve SF.1.evs.length vec, .int .i64 SF.2] 80)) w') ∧ Hid (Below w.heap.size w w')) (fun s i _ => ((sc.length : Int) - intOf i).toNat)
          case atStart => exact ⟨0, by omega, rfl, rfl, ⟨0, by simp [total], by simp [actsS, doActs], by simp [actsS, doActs], HBAND.out⟩, hidI (Stay.refl _ _), HB6⟩
          case round =>
            obtain ⟨k, hk, rfl, rfl, HR, HST, HB⟩ := hrel
            by_cases hlt : k < sc.length
            · obtain ⟨x, hx⟩ := some_at hlt
              obtain ⟨kk, th, nn⟩ := x
              have hbx : pbad ⟨kk, th, nn⟩ = false := by
                have := List.any_eq_false.1 HLN.out.2.1 _ (List.mem_of_getElem? hx)
                simpa using this
              have hkk : 0 ≤ kk ∧ kk ≤ 2 := by
                have := (HOK.out _ (List.mem_of_getElem? hx)).1.1
                unfold pbad at hbx; simp at hbx; exact ⟨this, by omega⟩
              have hn0 : 0 ≤ nn := by unfold pbad at hbx; simp at hbx; omega
              have htk : total (sc.take (k + 1)) ≤ 20000 := by
                have h1 := total_app (sc.take (k + 1)) (sc.drop (k + 1))
                rw [List.take_append_drop] at h1
                have : 0 ≤ total (sc.drop (k + 1)) := total_ge (by
                  refine List.any_eq_false.2 fun y hy => ?_
                  exact List.any_eq_false.1 HLN.out.2.1 y (List.mem_of_mem_drop hy))
                have := HTT.out
                omega
              have ht0 : 0 ≤ total (sc.take k) := total_ge (by
                refine List.any_eq_false.2 fun y hy => ?_
                exact List.any_eq_false.1 HLN.out.2.1 y (List.mem_of_mem_take hy))
              have hpg := plen_ge hbx
              rw [take_snoc hx, total_snoc] at htk
              have hpl : nn ≤ plen ⟨kk, th, nn⟩ := by
                unfold plen at htk ⊢
                simp only at htk ⊢
                split at htk <;> split <;> omega
              obtain ⟨N0, hN0, hq0, hq1, hR⟩ := HR.out
              obtain ⟨S, hS⟩ : ∃ S, S = doActs (newM mem (l.map (·.2)) cs, 0) (actsS (sc.take k)) := ⟨_, rfl⟩
              rw [← hS] at hq0 hq1 hR ⊢
              have HSEQ := hidI hS.symm
              have HNN := hidI hN0
              have HPL := hidI hpl
              have HNL : Hid (nn ≤ 20000 ∧ total (sc.take k) ≤ 20000) := hidI ⟨by omega, by omega⟩
              have HX := hidI hx
              have HM := hidI hR
              have HSN : Hid (0 ≤ S.2 ∧ S.2 ≤ N0) := hidI ⟨hq0, hq1⟩
              have hnb : nn ≤ 20000 := HNL.out.1
              have hkb : sc.length ≤ 262144 := HSC.out
              obtain ⟨b1, o1, rfl, hs1, hc1⟩ := RdT.at encPk_len (Rd.below HS.out HB.out) hx
              have x0 : wr.cell? ⟨b1, o1 + k * 3, none⟩ = some (.int .u8 kk) := by have := hc1 0 _ rfl; simpa using this
              have x1 : wr.cell? ⟨b1, o1 + k * 3 + 1, none⟩ = some (.int .i64 th) := hc1 1 _ rfl
              have x2 : wr.cell? ⟨b1, o1 + k * 3 + 2, none⟩ = some (.int .i64 nn) := hc1 2 _ rfl
              obtain ⟨w7, rfl⟩ : ∃ q, q = wr := ⟨_, rfl⟩
              clear hc1 hs1 hx hbx hpg htk ht0 hpl hN0 hq0 hq1 hR hS HR
              rcases (by omega : kk = 0 ∨ kk = 1 ∨ kk = 2) with rfl | rfl | rfl
              · clear hkk
                go_wp2_with fail
                go_loopw [11, 13] (fun s i w' => ∃ j : Nat, (j : Int) ≤ nn ∧ i = .int .i64 (j : Int) ∧ s = .int .i64 (doActs S (timesS ⟨0, th, nn⟩ j)).2 ∧ Hid (∃ N' : Nat, (N' : Int) ≤ N0 + j ∧ 0 ≤ (doActs S (timesS ⟨0, th, nn⟩ j)).2 ∧ (doActs S (timesS ⟨0, th, nn⟩ j)).2 ≤ N' ∧ MOff w' w3.heap.size b (doActs S (timesS ⟨0, th, nn⟩ j)).1 N' Q) ∧
                  Hid (Stay Q (w5.alloc (.cells #[.slice (some ⟨ga, 0, none⟩) ls.length ls.length, .slice ve SF.1.evs.length vec, .int .i64 SF.2] 80)) w') ∧ Hid (Below w.heap.size w w')) (fun s i _ => nn.toNat - (intOf i).toNat)
                case atStart => exact ⟨0, hn0, rfl, rfl, ⟨N0, by simp, HSN.out.1, HSN.out.2, HM.out⟩, HST, HB⟩
                case round =>
                  clear HM HST HB
                  obtain ⟨j, hj, rfl, rfl, HR, HST, HB⟩ := hrel
                  have hrd_wr := RdT.at encPk_len (Rd.below HS.out HB.out) HX.out
                  obtain ⟨b_wr, o_wr, e_wr, hs_wr, hc_wr⟩ := hrd_wr
                  cases e_wr
                  have x0_wr : wr.cell? ⟨b1, o1 + k * 3, none⟩ = some (.int .u8 0) := by have := hc_wr 0 _ rfl; simpa using this
                  have x1_wr : wr.cell? ⟨b1, o1 + k * 3 + 1, none⟩ = some (.int .i64 th) := hc_wr 1 _ rfl
                  have x2_wr : wr.cell? ⟨b1, o1 + k * 3 + 2, none⟩ = some (.int .i64 nn) := hc_wr 2 _ rfl
                  clear hc_wr hs_wr
                  by_cases hlt2 : (j : Int) < nn
                  · obtain ⟨N1, hN1, h0, h1, hR⟩ := HR.out
                    obtain ⟨D, hD⟩ : ∃ D, doActs S (timesS ⟨0, th, nn⟩ j) = D := ⟨_, rfl⟩
                    rw [hD] at h0 h1 hR ⊢
                    have hD := hidI hD
                    obtain ⟨M, st⟩ := D
                    simp only at h0 h1 hR ⊢
                    have HM := hidI hR
                    have H0 := hidI h0
                    have H1 := hidI h1
                    have HN1 := hidI hN1
                    have hst1 : st ≤ 50000 := by have := HNN.out; have := HNL.out; omega
                    clear HR hR h1 hN1
                    go_wp2_with fail
                    refine (step_p HM.out (by have := HN1.out; have := HNN.out; have := HNL.out; omega) th).mono ?_
                    rintro e w8 ⟨rfl, hm8, hst8, hb8⟩
                    have HM8 := hidI hm8
                    have HST8 := hidI (HST.out.trans hst8)
                    have HB8 := hidI (HB.out.trans (hb8.mono hw3))
                    have hrd_w8 := RdT.at encPk_len (Rd.below HS.out HB8.out) HX.out
                    obtain ⟨b_w8, o_w8, e_w8, hs_w8, hc_w8⟩ := hrd_w8
                    cases e_w8
                    have x0_w8 : w8.cell? ⟨b1, o1 + k * 3, none⟩ = some (.int .u8 0) := by have := hc_w8 0 _ rfl; simpa using this
                    have x1_w8 : w8.cell? ⟨b1, o1 + k * 3 + 1, none⟩ = some (.int .i64 th) := hc_w8 1 _ rfl
                    have x2_w8 : w8.cell? ⟨b1, o1 + k * 3 + 2, none⟩ = some (.int .i64 nn) := hc_w8 2 _ rfl
                    clear hc_w8 hs_w8
                    clear hm8 hst8 hb8
                    cases hq : (M.step th).1 with
                    | true =>
                      have hsn : doActs S (timesS ⟨0, th, nn⟩ (j + 1)) = ((M.step th).2, st + 1) := by
                        rw [timesS, doActs_app, hD.out]
                        simp [onceS, doActs, doAct, hq]
                      go_wp2_with fail
                      exact ⟨⟨j + 1, by omega, by go_num, by rw [hsn], ⟨N1 + 1, by have := HN1.out; omega, by rw [hsn]; have := H0.out; simp only; omega, by rw [hsn]; have := H1.out; simp only; omega, by rw [hsn]; exact HM8.out⟩, HST8, HB8⟩, by simp [intOf]; omega⟩
                    | false =>
                      have hsn : doActs S (timesS ⟨0, th, nn⟩ (j + 1)) = ((M.step th).2, st) := by
                        rw [timesS, doActs_app, hD.out]
                        simp [onceS, doActs, doAct, hq]
                      go_wp2_with fail
                      exact ⟨⟨j + 1, by omega, by go_num, by rw [hsn], ⟨N1 + 1, by have := HN1.out; omega, by rw [hsn]; have := H0.out; simp only; omega, by rw [hsn]; have := H1.out; simp only; omega, by rw [hsn]; exact HM8.out⟩, HST8, HB8⟩, by simp [intOf]; omega⟩
                  · have hjn : nn.toNat = j := by omega
                    go_wp2_with fail
                    obtain ⟨N1, hN1, h0, h1, hR⟩ := HR.out
                    have hfin : doActs (newM mem (l.map (·.2)) cs, 0) (actsS (sc.take (k + 1))) = doActs S (timesS ⟨0, th, nn⟩ j) := by
                      rw [take_snoc HX.out, actsS_snoc, doActs_app, HSEQ.out]
                      simp only [pickS]
                      rw [hjn]
                    exact ⟨⟨k + 1, by omega, by go_num, by rw [hfin], ⟨N1, by rw [take_snoc HX.out, total_snoc]; have := HNN.out; have := HPL.out; omega, by rw [hfin]; exact h0, by rw [hfin]; exact h1, by rw [hfin]; exact hR⟩, HST, HB⟩, by simp [intOf]; omega⟩
              · clear hkk
                go_wp2_with fail
                go_loopw [11, 13] (fun s i w' => ∃ j : Nat, (j : Int) ≤ nn ∧ i = .int .i64 (j : Int) ∧ s = .int .i64 (doActs S (timesS ⟨1, th, nn⟩ j)).2 ∧ Hid (∃ N' : Nat, (N' : Int) ≤ N0 + j ∧ 0 ≤ (doActs S (timesS ⟨1, th, nn⟩ j)).2 ∧ (doActs S (timesS ⟨1, th, nn⟩ j)).2 ≤ N' ∧ MOff w' w3.heap.size b (doActs S (timesS ⟨1, th, nn⟩ j)).1 N' Q) ∧
                  Hid (Stay Q (w5.alloc (.cells #[.slice (some ⟨ga, 0, none⟩) ls.length ls.length, .slice ve SF.1.evs.length vec, .int .i64 SF.2] 80)) w') ∧ Hid (Below w.heap.size w w')) (fun s i _ => nn.toNat - (intOf i).toNat)
                case atStart => exact ⟨0, hn0, rfl, rfl, ⟨N0, by simp, HSN.out.1, HSN.out.2, HM.out⟩, HST, HB⟩
                case round =>
                  clear HM HST HB
                  obtain ⟨j, hj, rfl, rfl, HR, HST, HB⟩ := hrel
                  have hrd_wr := RdT.at encPk_len (Rd.below HS.out HB.out) HX.out
                  obtain ⟨b_wr, o_wr, e_wr, hs_wr, hc_wr⟩ := hrd_wr
                  cases e_wr
                  have x0_wr : wr.cell? ⟨b1, o1 + k * 3, none⟩ = some (.int .u8 1) := by have := hc_wr 0 _ rfl; simpa using this
                  have x1_wr : wr.cell? ⟨b1, o1 + k * 3 + 1, none⟩ = some (.int .i64 th) := hc_wr 1 _ rfl
                  have x2_wr : wr.cell? ⟨b1, o1 + k * 3 + 2, none⟩ = some (.int .i64 nn) := hc_wr 2 _ rfl
                  clear hc_wr hs_wr
                  by_cases hlt2 : (j : Int) < nn
                  · obtain ⟨N1, hN1, h0, h1, hR⟩ := HR.out
                    obtain ⟨D, hD⟩ : ∃ D, doActs S (timesS ⟨1, th, nn⟩ j) = D := ⟨_, rfl⟩
                    rw [hD] at h0 h1 hR ⊢
                    have hD := hidI hD
                    obtain ⟨M, st⟩ := D
                    simp only at h0 h1 hR ⊢
                    have HM := hidI hR
                    have H0 := hidI h0
                    have H1 := hidI h1
                    have HN1 := hidI hN1
                    have hst1 : st ≤ 50000 := by have := HNN.out; have := HNL.out; omega
                    clear HR hR h1 hN1
                    go_wp2_with fail
                    have hsn : doActs S (timesS ⟨1, th, nn⟩ (j + 1)) = ((M.flush th).2, st) := by
                      rw [timesS, doActs_app, hD.out]
                      simp [onceS, doActs, doAct]
                    refine (flush_p HM.out th).mono ?_
                    rintro e w9 ⟨rfl, hm9, hst9, hb9⟩
                    have HM8 := hidI hm9
                    have HST8 := hidI (HST.out.trans hst9)
                    have HB8 := hidI (HB.out.trans (hb9.mono hw3))
                    clear hm9 hst9 hb9
                    go_wp2_with fail
                    exact ⟨⟨j + 1, by omega, by go_num, by rw [hsn], ⟨N1 + 1, by have := HN1.out; omega, by rw [hsn]; have := H0.out; simp only; omega, by rw [hsn]; have := H1.out; simp only; omega, by rw [hsn]; exact HM8.out.incr⟩, HST8, HB8⟩, by simp [intOf]; omega⟩
                  · have hjn : nn.toNat = j := by omega
                    go_wp2_with fail
                    obtain ⟨N1, hN1, h0, h1, hR⟩ := HR.out
                    have hfin : doActs (newM mem (l.map (·.2)) cs, 0) (actsS (sc.take (k + 1))) = doActs S (timesS ⟨1, th, nn⟩ j) := by
                      rw [take_snoc HX.out, actsS_snoc, doActs_app, HSEQ.out]
                      simp only [pickS]
                      rw [hjn]
                    exact ⟨⟨k + 1, by omega, by go_num, by rw [hfin], ⟨N1, by rw [take_snoc HX.out, total_snoc]; have := HNN.out; have := HPL.out; omega, by rw [hfin]; exact h0, by rw [hfin]; exact h1, by rw [hfin]; exact hR⟩, HST, HB⟩, by simp [intOf]; omega⟩
              · clear hkk
                go_wp2_with fail
                go_loopw [11, 13] (fun s i w' => ∃ j : Nat, (j : Int) ≤ nn ∧ i = .int .i64 (j : Int) ∧ s = .int .i64 (doActs S (timesS ⟨2, th, nn⟩ j)).2 ∧ Hid (∃ N' : Nat, (N' : Int) ≤ N0 + j ∧ 0 ≤ (doActs S (timesS ⟨2, th, nn⟩ j)).2 ∧ (doActs S (timesS ⟨2, th, nn⟩ j)).2 ≤ N' ∧ MOff w' w3.heap.size b (doActs S (timesS ⟨2, th, nn⟩ j)).1 N' Q) ∧
                  Hid (Stay Q (w5.alloc (.cells #[.slice (some ⟨ga, 0, none⟩) ls.length ls.length, .slice ve SF.1.evs.length vec, .int .i64 SF.2] 80)) w') ∧ Hid (Below w.heap.size w w')) (fun s i _ => nn.toNat - (intOf i).toNat)
                case atStart => exact ⟨0, hn0, rfl, rfl, ⟨N0, by simp, HSN.out.1, HSN.out.2, HM.out⟩, HST, HB⟩
                case round =>
                  clear HM HST HB
                  obtain ⟨j, hj, rfl, rfl, HR, HST, HB⟩ := hrel
                  have hrd_wr := RdT.at encPk_len (Rd.below HS.out HB.out) HX.out
                  obtain ⟨b_wr, o_wr, e_wr, hs_wr, hc_wr⟩ := hrd_wr
                  cases e_wr
                  have x0_wr : wr.cell? ⟨b1, o1 + k * 3, none⟩ = some (.int .u8 2) := by have := hc_wr 0 _ rfl; simpa using this
                  have x1_wr : wr.cell? ⟨b1, o1 + k * 3 + 1, none⟩ = some (.int .i64 th) := hc_wr 1 _ rfl
                  have x2_wr : wr.cell? ⟨b1, o1 + k * 3 + 2, none⟩ = some (.int .i64 nn) := hc_wr 2 _ rfl
                  clear hc_wr hs_wr
                  by_cases hlt2 : (j : Int) < nn
                  · obtain ⟨N1, hN1, h0, h1, hR⟩ := HR.out
                    obtain ⟨D, hD⟩ : ∃ D, doActs S (timesS ⟨2, th, nn⟩ j) = D := ⟨_, rfl⟩
                    rw [hD] at h0 h1 hR ⊢
                    have hD := hidI hD
                    obtain ⟨M, st⟩ := D
                    simp only at h0 h1 hR ⊢
                    have HM := hidI hR
                    have H0 := hidI h0
                    have H1 := hidI h1
                    have HN1 := hidI hN1
                    have hst1 : st ≤ 50000 := by have := HNN.out; have := HNL.out; omega
                    clear HR hR h1 hN1
                    go_wp2_with fail
                    refine (step_p HM.out (by have := HN1.out; have := HNN.out; have := HNL.out; omega) th).mono ?_
                    rintro e w8 ⟨rfl, hm8, hst8, hb8⟩
                    have HM8 := hidI hm8
                    have HST8 := hidI (HST.out.trans hst8)
                    have HB8 := hidI (HB.out.trans (hb8.mono hw3))
                    have hrd_w8 := RdT.at encPk_len (Rd.below HS.out HB8.out) HX.out
                    obtain ⟨b_w8, o_w8, e_w8, hs_w8, hc_w8⟩ := hrd_w8
                    cases e_w8
                    have x0_w8 : w8.cell? ⟨b1, o1 + k * 3, none⟩ = some (.int .u8 2) := by have := hc_w8 0 _ rfl; simpa using this
                    have x1_w8 : w8.cell? ⟨b1, o1 + k * 3 + 1, none⟩ = some (.int .i64 th) := hc_w8 1 _ rfl
                    have x2_w8 : w8.cell? ⟨b1, o1 + k * 3 + 2, none⟩ = some (.int .i64 nn) := hc_w8 2 _ rfl
                    clear hc_w8 hs_w8
                    clear hm8 hst8 hb8
                    cases hq : (M.step th).1 with
                    | true =>
                      have hsn : doActs S (timesS ⟨2, th, nn⟩ (j + 1)) = (((M.step th).2.flush th).2, st + 1) := by
                        rw [timesS, doActs_app, hD.out]
                        simp [onceS, doActs, doAct, hq]
                      go_wp2_with fail
                      refine (flush_p HM8.out th).mono ?_
                      rintro e w9 ⟨rfl, hm9, hst9, hb9⟩
                      have HM8 := hidI hm9
                      have HST8 := hidI (HST8.out.trans hst9)
                      have HB8 := hidI (HB8.out.trans (hb9.mono hw3))
                      clear hm9 hst9 hb9
                      go_wp2_with fail
                      exact ⟨⟨j + 1, by omega, by go_num, by rw [hsn], ⟨N1 + 1, by have := HN1.out; omega, by rw [hsn]; have := H0.out; simp only; omega, by rw [hsn]; have := H1.out; simp only; omega, by rw [hsn]; exact HM8.out⟩, HST8, HB8⟩, by simp [intOf]; omega⟩
                    | false =>
                      have hsn : doActs S (timesS ⟨2, th, nn⟩ (j + 1)) = (((M.step th).2.flush th).2, st) := by
                        rw [timesS, doActs_app, hD.out]
                        simp [onceS, doActs, doAct, hq]
                      go_wp2_with fail
                      refine (flush_p HM8.out th).mono ?_
                      rintro e w9 ⟨rfl, hm9, hst9, hb9⟩
                      have HM8 := hidI hm9
                      have HST8 := hidI (HST8.out.trans hst9)
                      have HB8 := hidI (HB8.out.trans (hb9.mono hw3))
                      clear hm9 hst9 hb9
                      go_wp2_with fail
                      exact ⟨⟨j + 1, by omega, by go_num, by rw [hsn], ⟨N1 + 1, by have := HN1.out; omega, by rw [hsn]; have := H0.out; simp only; omega, by rw [hsn]; have := H1.out; simp only; omega, by rw [hsn]; exact HM8.out⟩, HST8, HB8⟩, by simp [intOf]; omega⟩
                  · have hjn : nn.toNat = j := by omega
                    go_wp2_with fail
                    obtain ⟨N1, hN1, h0, h1, hR⟩ := HR.out
                    have hfin : doActs (newM mem (l.map (·.2)) cs, 0) (actsS (sc.take (k + 1))) = doActs S (timesS ⟨2, th, nn⟩ j) := by
                      rw [take_snoc HX.out, actsS_snoc, doActs_app, HSEQ.out]
                      simp only [pickS]
                      rw [hjn]
                    exact ⟨⟨k + 1, by omega, by go_num, by rw [hfin], ⟨N1, by rw [take_snoc HX.out, total_snoc]; have := HNN.out; have := HPL.out; omega, by rw [hfin]; exact h0, by rw [hfin]; exact h1, by rw [hfin]; exact hR⟩, HST, HB⟩, by simp [intOf]; omega⟩
            · obtain rfl : k = sc.length := by omega
              obtain ⟨N1, hN1, h0, h1, hR⟩ := HR.out
              rw [List.take_length] at hN1 h0 h1 hR ⊢
              rw [← HSF.out] at h0 h1 hR ⊢
              have hq : ∀ g, w4.heap.size ≤ g → g < w5.heap.size + 1 → wr.heap[g]? = (w5.alloc (.cells #[.slice (some ⟨ga, 0, none⟩) ls.length ls.length, .slice ve SF.1.evs.length vec, .int .i64 SF.2] 80)).heap[g]? := fun g h1 h2 => HST.out g (by rw [HQ.out, List.mem_range'_1]; simp; omega)
              have hq5 : ∀ g, w4.heap.size ≤ g → g < w5.heap.size → wr.heap[g]? = w5.heap[g]? := fun g h1 h2 => (hq g h1 (by omega)).trans (heap_alloc_old _ _ h2)
              have hbox := (hq w5.heap.size hs5 (by omega)).trans HTB.out
              have t0 : wr.cell? ⟨w5.heap.size, 0, none⟩ = some (.slice (some ⟨ga, 0, none⟩) ls.length ls.length) := cell_of_block hbox rfl
              have t1 : wr.cell? ⟨w5.heap.size, 1, none⟩ = some (.slice ve SF.1.evs.length vec) := cell_of_block hbox rfl
              have t2 : wr.cell? ⟨w5.heap.size, 2, none⟩ = some (.int .i64 SF.2) := cell_of_block hbox rfl
              have hrow : SeenAt wr (.slice (some ⟨ga, 0, none⟩) ls.length ls.length) ls := ⟨Rd.of_own (ownRow_keep HROW.out fun g hg hl => hq5 g (rowLt HROW.out hg).1 hl), fun s hs => Rd.of_own (ownRow_keep (HSE.out s hs).1 fun g hg hl => hq5 g (rowLt (HSE.out s hs).1 hg).1 hl)⟩
              have hev : RdT encEv wr 4 (.slice ve SF.1.evs.length vec) SF.1.evs := Rd.of_own (ownRow_keep HEV.out fun g hg hl => hq5 g (rowLt HEV.out hg).1 hl)
              have HROW := hidI hrow
              have HEV := hidI hev
              have HM := hidI hR
              have HNN : Hid (N1 ≤ 20000) := hidI (by have := HTT.out; omega)
              have hlt5 := lt_of_block hbox
              clear HST HR h0 h1 hN1 hR hq hq5 hbox hrow hev HTB HBAND HSE
              obtain ⟨w7, rfl⟩ : ∃ q, q = wr := ⟨_, rfl⟩
              have hko : ls.length ≤ 262144 ∧ ∀ s ∈ ls, s.out.length ≤ 2000000000 := by
                obtain ⟨own, xs, mv, tv, ev, -, -, hk, -⟩ := HM.out
                have hl := congrArg List.length HMS.out
                simp only [List.length_map] at hl
                refine ⟨by have := hk.four; omega, fun s hs => ?_⟩
                have hm : (s.out, s.fin) ∈ SF.1.ths.map (fun t => (t.out, t.fin)) := by rw [← HMS.out]; exact List.mem_map.2 ⟨s, hs, rfl⟩
                obtain ⟨t, ht, he⟩ := List.mem_map.1 hm
                have h9 := (hk.th t ht).out
                have h8 := HNN.out
                simp only [Prod.mk.injEq] at he
                rw [← he.1]
                omega
              have hev9 : SF.1.evs.length ≤ 1000000000 := by
                obtain ⟨own, xs, mv, tv, ev, -, -, hk, -⟩ := HM.out
                have h9 := hk.evs
                have h8 := HNN.out
                omega
              have HKO := hidI hko
              have HEV9 := hidI hev9
              have HNB : Hid (N1 ≤ 1000000000) := hidI (by have := HNN.out; omega)
              clear hko hev9
              go_wp2_with fail
              go_region_held3 (fun w' => w'.cell? ⟨w5.heap.size, 0, none⟩ = some (.slice (some ⟨ga, 0, none⟩) ls.length ls.length) ∧ w'.cell? ⟨w5.heap.size, 1, none⟩ = some (.slice ve SF.1.evs.length vec) ∧ w'.cell? ⟨w5.heap.size, 2, none⟩ = some (.int .i64 SF.2)) (refine ⟨?_, ?_, ?_⟩ <;> first | assumption | (simp only [World.cell?_drew]; assumption)) (first | (go_at_call 18; refine (seen_own (HM.out.live.below (Below.refl w7.heap.size w7).drew) HNB.out).mono ?_; rintro e wA ⟨ls2, rfl, hsa, hse, -, hms2, hbA⟩; have hA : Below w7.heap.size w7 wA := (Below.refl w7.heap.size w7).drew.trans hbA; have tA0 := (World.cell?_of_block (hA.block w5.heap.size hlt5)).trans t0; have tA1 := (World.cell?_of_block (hA.block w5.heap.size hlt5)).trans t1; have tA2 := (World.cell?_of_block (hA.block w5.heap.size hlt5)).trans t2; have HA := hidI hA; have HLS2 : Hid (SeenAt wA (.slice (some ⟨w7.drew.heap.size, 0, none⟩) ls2.length ls2.length) ls2) := hidI ⟨Rd.of_own hsa, fun s hs => Rd.of_own (hse s hs).1⟩; have HMS2 := hidI hms2; clear hsa hse hms2 hbA hA; dsimp only) | (go_at_call 33; refine (sameSeens_true (HROW.out.below HA.out) HLS2.out rfl rfl (by rw [HMS.out, HMS2.out]) HKO.out.1 HKO.out.2).mono ?_; rintro e wB ⟨rfl, hbB⟩; have hB := bnext HA.out hbB; have tB0 := (World.cell?_of_block (hB.block w5.heap.size hlt5)).trans t0; have tB1 := (World.cell?_of_block (hB.block w5.heap.size hlt5)).trans t1; have tB2 := (World.cell?_of_block (hB.block w5.heap.size hlt5)).trans t2; have HB2' := hidI hB; clear hbB hB; dsimp only) | (go_at_call 21; refine (events_p (HM.out.below HB2'.out) HNB.out).mono ?_; rintro e wC ⟨cv, rfl, hoe, hbC⟩; obtain ⟨cvo, cvc, rfl⟩ := ownsRow_shape hoe; have hC := bnext HB2'.out hbC; have tC0 := (World.cell?_of_block (hC.block w5.heap.size hlt5)).trans t0; have tC1 := (World.cell?_of_block (hC.block w5.heap.size hlt5)).trans t1; have tC2 := (World.cell?_of_block (hC.block w5.heap.size hlt5)).trans t2; have HC' := hidI hC; have HOE := hidI (Rd.of_own hoe); clear hoe hbC hC; dsimp only) | (go_at_call 20; refine (sameEvents_eq (Rd.below HEV.out HC'.out) HOE.out rfl rfl (by have := HEV9.out; omega)).mono ?_; rintro e wD ⟨rfl, hbD⟩; have hD := bnext HC'.out hbD; have tD0 := (World.cell?_of_block (hD.block w5.heap.size hlt5)).trans t0; have tD1 := (World.cell?_of_block (hD.block w5.heap.size hlt5)).trans t1; have tD2 := (World.cell?_of_block (hD.block w5.heap.size hlt5)).trans t2; have HD := hidI hD; clear hbD hD; dsimp only) | (go_at_call 32; refine (lives21 _).mono ?_; rintro e wE ⟨rfl, hbE⟩; have hE := bnext HD.out hbE; have tE0 := (World.cell?_of_block (hE.block w5.heap.size hlt5)).trans t0; have tE1 := (World.cell?_of_block (hE.block w5.heap.size hlt5)).trans t1; have tE2 := (World.cell?_of_block (hE.block w5.heap.size hlt5)).trans t2; have HE9 := hidI hE; clear hbE hE; dsimp only))
              all_goals (go_wp2_with fail)
              all_goals (
                go_ret
                exact ⟨rfl, bnext HB.out HE9.out⟩)
      · have hre : runE mem l cs sc = e1 := by unfold runE; rw [if_neg (by simpa using HK.out), HE1.out]
        have HRE := hidI hre
        have HE := hidI he
        have heq : (e1 == 0) = false := by simpa using he
        clear hre he
        go_wp2_with fail
        refine (run_no HC4.out HCC4.out mem (by have := HL2.out; omega) (by have := HL2.out; omega) HS4.out (by have := HSC.out; omega) HNN.out (by rw [HRE.out]; exact HE.out)).mono ?_
        rintro e w5 ⟨rfl, hb⟩
        rw [HRE.out]
        have HB5 := hidI (bnext HB4.out hb)
        clear hb
        go_wp2_with fail
        refine (lives21 _).mono ?_
        rintro e w6 ⟨rfl, hb⟩
        have HB6 := hidI (bnextA HB5.out hb)
        clear hb
        go_wp2_with fail
        go_ret
        exact ⟨rfl, HB6.out⟩
    · go_wp2_with fail
      refine (new_no HC3.out HCC3.out mem (by have := HL2.out; omega) (by have := HL2.out; omega) hk).mono ?_
      rintro e w4 ⟨rfl, hb⟩
      have HC4 := hidI (HC3.out.below hb)
      have HCC4 := hidI (Rd.below HCC3.out hb)
      have HS4 := hidI (Rd.below HS3.out hb)
      have HB4 := hidI (bnext HB3.out hb)
      have hx4 := blk hb HX3.out
      have m0 : w4.cell? ⟨w.heap.size, 0, none⟩ = some (.slice ca l.length ccap) := cell_of_block hx4 rfl
      have m1 : w4.cell? ⟨w.heap.size, 1, none⟩ = some (.int .i64 mem) := cell_of_block hx4 rfl
      have m2 : w4.cell? ⟨w.heap.size, 2, none⟩ = some (.slice cca cs.length ccca) := cell_of_block hx4 rfl
      have hre : runE mem l cs sc = checkM mem l cs := by unfold runE; rw [if_pos hk]
      have HRE := hidI hre
      have HK := hidI hk
      clear hb hx4 hre HC3 HCC3 HS3 HB3 HX3
      go_wp2_with fail
      refine (run_no HC4.out HCC4.out mem (by have := HL2.out; omega) (by have := HL2.out; omega) HS4.out (by have := HSC.out; omega) HNN.out (by rw [HRE.out]; exact HK.out)).mono ?_
      rintro e w5 ⟨rfl, hb⟩
      rw [HRE.out]
      have HB5 := hidI (bnext HB4.out hb)
      clear hb
      have heq : (checkM mem l cs == 0) = false := by simpa using hk
      generalize checkM mem l cs = ck at *
      go_wp2_with fail
      refine (lives21 _).mono ?_
      rintro e w6 ⟨rfl, hb⟩
      have HB6 := hidI (bnextA HB5.out hb)
      clear hb
      go_wp2_with fail
      go_ret
      exact ⟨rfl, HB6.out⟩
end Go.Proofs.Ytnechkhgceeejaa

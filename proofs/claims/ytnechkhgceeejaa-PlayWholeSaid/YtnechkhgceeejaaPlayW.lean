/- PlayWhole: both sides of a cut are the script. (Written by mkplayw.py.) -/
import Derived.Test.YtnechkhgceeejaaPlayM
import Derived.Deep.CutRange
import Derived.Deep.RegionHeld3
import Derived.BigRegion
namespace Go.Proofs.Ytnechkhgceeejaa
open Go.RowKit
set_option linter.unusedVariables false
set_option linter.unusedSimpArgs false

variable {w w' : World}

theorem Rd.cap_le {sz n c : Nat} {ao : Option Addr} {xs : List Value} (h : Rd w sz (.slice ao n c) n xs) : n ≤ c := by
  obtain ⟨h1, ao', c', e, h2, h3⟩ := h
  simp only [Value.slice.injEq, true_and] at e
  rw [e.2]; exact h2
theorem seen_prefix {m1 m2 : MM} {k : Nat} {x y : SX} {l1 l2 : List SX} (h : Later m1 m2) (e1 : l1.map (fun s => (s.out, s.fin)) = m1.ths.map (fun t => (t.out, t.fin))) (e2 : l2.map (fun s => (s.out, s.fin)) = m2.ths.map (fun t => (t.out, t.fin))) (hy : l1[k]? = some y) (hx : l2[k]? = some x) : y.out <+: x.out := by
  have g1 := congrArg (fun l => l[k]?) e1
  have g2 := congrArg (fun l => l[k]?) e2
  simp only [List.getElem?_map, hy, hx, Option.map_some] at g1 g2
  cases h1 : m1.ths[k]? with
  | none => rw [h1] at g1; cases g1
  | some t1 =>
    obtain ⟨t2, h2, h3⟩ := h.out k t1 h1
    rw [h1] at g1
    rw [h2] at g2
    simp only [Option.map_some, Option.some.injEq, Prod.mk.injEq] at g1 g2
    rw [g1.1, g2.1]
    exact h3
theorem one_flatP (l : List PickD) : ∀ u ∈ l.flatMap encPk, u.oneCell' = true := by
  intro u hu
  obtain ⟨p, _, hp⟩ := List.mem_flatMap.1 hu
  exact one_pk p u hp

set_option maxRecDepth 100000 in
set_option maxHeartbeats 1000000 in
theorem whole_any {ca cca sa : Option Addr} {ccap ccca scap : Nat} {l : List (Value × List OpD)} {cs : List (Int × Int)} {sc : List PickD} {mem : Int} (first : Int) (h : CodeAt w (.slice ca l.length ccap) l) (hc : RdT encCell w 2 (.slice cca cs.length ccca) cs) (hs : RdT encPk w 3 (.slice sa sc.length scap) sc)
    (hl : l.length ≤ 9223372036854775807) (hcl : cs.length ≤ 9223372036854775807) (hol : ∀ p ∈ l, p.2.length ≤ 9223372036854775807) (hsl : sc.length ≤ 9223372036854775807) (hok : ∀ p ∈ sc, PickOk p) :
    Calls Try.prog 8 #[.agg #[.slice ca l.length ccap, .int .i64 mem, .slice cca cs.length ccca], .slice sa sc.length scap, .int .i64 first] w fun e w' => e = .returned (.bool true) ∧ Below w.heap.size w w' := by
  have H := hidI h
  have HC := hidI hc
  have HS := hidI hs
  have HL := hidI hl
  have HCL := hidI hcl
  have HOL := hidI hol
  have HSL := hidI hsl
  have HOK := hidI hok
  clear h hc hs hl hcl hol hsl hok
  go_enter Try.func8, Try.ntmps8
  go_wp2_with fail
  have hb0 : Below w.heap.size w (w.alloc (.cells #[.slice ca l.length ccap, .int .i64 mem, .slice cca cs.length ccca] 56)) := (Below.refl _ _).alloc (Nat.le_refl _) _
  have hbox := block_new w (.cells #[.slice ca l.length ccap, .int .i64 mem, .slice cca cs.length ccca] 56)
  have H0 := hidI (H.out.below hb0)
  have HC0 := hidI (Rd.below HC.out hb0)
  have HS0 := hidI (Rd.below HS.out hb0)
  have HB0 := hidI hb0
  have HX0 := hidI hbox
  clear hb0 hbox
  refine (imageSize_any (cca := cca) (ccca := ccca) (cs := cs) H0.out mem HL.out HCL.out HOL.out).mono ?_
  rintro e w1 ⟨z, rfl, hz, hzl, hb⟩
  have HZ := hidI hz
  have HZL := hidI hzl
  have HC1 := hidI (H0.out.below hb)
  have HCC1 := hidI (Rd.below HC0.out hb)
  have HS1 := hidI (Rd.below HS0.out hb)
  have HB1 := hidI (bnext HB0.out hb)
  have HX1 := hidI (blk hb HX0.out)
  clear hz hzl hb H0 HC0 HS0 HB0 HX0
  go_wp2_with fail
  have hbb : Below w1.heap.size w1 (w1.alloc (.cells #[.int .i64 z, .int .i64 (sc.length : Int)] 3)) := (Below.refl _ _).alloc (Nat.le_refl _) _
  refine (beyond2 (y := z) (z := (sc.length : Int)) (block_new w1 _) (by have := HZ.out; omega) (by have := HSL.out; omega)).mono ?_
  rintro e w2 ⟨r, rfl, hr, hb⟩
  have hb2 := bnext hbb hb
  have HC2 := hidI (HC1.out.below hb2)
  have HCC2 := hidI (Rd.below HCC1.out hb2)
  have HS2 := hidI (Rd.below HS1.out hb2)
  have HB2 := hidI (bnext HB1.out hb2)
  have hx2 := blk hb2 HX1.out
  have HX2 := hidI hx2
  clear hb hbb hb2 HC1 HCC1 HS1 HB1 HX1
  cases r with
  | true =>
    clear hx2
    go_wp2_with fail
    go_ret
    exact ⟨rfl, HB2.out⟩
  | false =>
    have hr' := hr rfl
    have hl2 := HZL.out hr'.1
    have hsc := hr'.2
    have HL2 := hidI hl2
    have hnn : ∀ p ∈ sc, -9223372036854775808 ≤ p.n ∧ 0 ≤ p.kind := fun p hp => ⟨(HOK.out p hp).2.2.1, (HOK.out p hp).1.1⟩
    have HNN := hidI hnn
    have HSC : Hid (sc.length ≤ 262144) := hidI (by omega)
    have m0 : w2.cell? ⟨w.heap.size, 0, none⟩ = some (.slice ca l.length ccap) := cell_of_block hx2 rfl
    have m1 : w2.cell? ⟨w.heap.size, 1, none⟩ = some (.int .i64 mem) := cell_of_block hx2 rfl
    have m2 : w2.cell? ⟨w.heap.size, 2, none⟩ = some (.slice cca cs.length ccca) := cell_of_block hx2 rfl
    clear hr hr' hl2 hsc hnn hx2 HZ HZL
    go_wp2_with fail
    clear m0 m1 m2
    refine (length_any HS2.out (by have := HSC.out; omega) HNN.out).mono ?_
    rintro e w3 ⟨rfl, hb⟩
    have HC3 := hidI (HC2.out.below hb)
    have HCC3 := hidI (Rd.below HCC2.out hb)
    have HS3 := hidI (Rd.below HS2.out hb)
    have HB3 := hidI (bnext HB2.out hb)
    have HX3 := hidI (blk hb HX2.out)
    clear hb HC2 HCC2 HS2 HB2 HX2
    obtain ⟨n, hn⟩ : ∃ n, n = (lengthS sc).1 := ⟨_, rfl⟩
    obtain ⟨e1, he1⟩ : ∃ e1, e1 = (lengthS sc).2 := ⟨_, rfl⟩
    rw [← hn, ← he1]
    have HN := hidI hn
    have HE1 := hidI he1
    clear hn he1
    by_cases hte : tailE sc first = 0
    · have h1 : e1 = 0 := by
        rw [HE1.out]
        unfold tailE at hte
        split at hte
        · assumption
        · rename_i hc; simpa using hc
      subst h1
      have h2 := lengthS_ok HE1.out.symm
      have h3 : 0 ≤ first ∧ first ≤ n := by
        unfold tailE at hte
        rw [if_neg (by rw [← HE1.out]; simp)] at hte
        rw [HN.out]
        constructor
        · exact Classical.byContradiction fun hc => by rw [if_pos (.inl (by omega))] at hte; cases hte
        · exact Classical.byContradiction fun hc => by rw [if_pos (.inr (by omega))] at hte; cases hte
      have hinv := tail_inv h3.1 sc h2.2.1 (fun p hp => ⟨short_of_total h2.2.1 h2.2.2.1 p hp, (HNN.out p hp).2⟩)
      have hln := tailSt_len first sc
      have hnt : n = total sc := by rw [HN.out, h2.2.2.2]
      have HINV := hidI hinv
      have HNT := hidI hnt
      have HTS := hidI h2.2.2.1
      have HFN := hidI h3
      have HLN := hidI (show (tailSt first sc).2.1.length ≤ 524288 ∧ (tailSt first sc).2.2.length ≤ 524288 from by have := HSC.out; omega)
      clear h2 h3 hinv hln hnt
      go_wp2_with fail
      refine (tail_yes HS3.out (fun p hp => ⟨(HNN.out p hp).1, (HOK.out p hp).2.2.2, (HNN.out p hp).2⟩) first hte).mono ?_
      rintro e w4 ⟨va, vb, rfl, hva, hvb, -, hb⟩
      have hta := HINV.out.done (by have := HNT.out; have := HFN.out; omega)
      obtain ⟨s, hs⟩ : ∃ s, s = tailSt first sc := ⟨_, rfl⟩
      rw [← hs] at hva hvb hta HINV HLN
      clear hs
      obtain ⟨f9, A, B⟩ := s
      simp only at hva hvb hta HLN
      obtain ⟨aao, aac, rfl⟩ := ownsRow_shape hva
      obtain ⟨bao, bac, rfl⟩ := ownsRow_shape hvb
      have htb : total B = n - first := by have h9 := HINV.out.tb; simp only at h9; have := HNT.out; omega
      have HTA := hidI hta
      have HTB := hidI htb
      have HRA := hidI (Rd.of_own hva)
      have HRB := hidI (Rd.of_own hvb)
      have HC4 := hidI (HC3.out.below hb)
      have HCC4 := hidI (Rd.below HCC3.out hb)
      have HS4 := hidI (Rd.below HS3.out hb)
      have HB4 := hidI (bnext HB3.out hb)
      have HX4 := hidI (blk hb HX3.out)
      have HNA : Hid (∀ p ∈ A, -9223372036854775808 ≤ p.n ∧ 0 ≤ p.kind) := hidI (fun p hp => ⟨by have := List.any_eq_false.1 HINV.out.ba p hp; unfold pbad at this; simp at this; omega, HINV.out.ka p hp⟩)
      have HNB : Hid (∀ p ∈ B, -9223372036854775808 ≤ p.n ∧ 0 ≤ p.kind) := hidI (fun p hp => ⟨by have := List.any_eq_false.1 HINV.out.bb p hp; unfold pbad at this; simp at this; omega, HINV.out.kb p hp⟩)
      have hla := len_side HINV.out.ba (by have h9 := HTA.out; have := HFN.out; have := HNT.out; have := HTS.out; simp only; omega)
      have hlb := len_side HINV.out.bb (by have h9 := HTB.out; have := HFN.out; have := HNT.out; have := HTS.out; simp only; omega)
      simp only at hla hlb
      rw [hta] at hla
      rw [htb] at hlb
      clear hva hvb hta htb hb HC3 HCC3 HS3 HB3 HX3 hte
      go_wp2_with fail
      refine (length_any (l := A) HRA.out (by have := HLN.out; omega) HNA.out).mono ?_
      rintro e w5 ⟨rfl, hb⟩
      have HRA5 := hidI (Rd.below HRA.out hb)
      have HRB5 := hidI (Rd.below HRB.out hb)
      have HC5 := hidI (HC4.out.below hb)
      have HCC5 := hidI (Rd.below HCC4.out hb)
      have HS5 := hidI (Rd.below HS4.out hb)
      have HB5 := hidI (bnext HB4.out hb)
      have HX5 := hidI (blk hb HX4.out)
      clear hb HRA HRB HC4 HCC4 HS4 HB4 HX4
      rcases hla with ⟨ela, hla⟩ | ⟨ela, hla⟩
      · rw [ela]
        rcases hlb with ⟨elb, hlb⟩ | ⟨elb, hlb⟩
        · clear hla hlb
          go_wp2_with fail
          refine (length_any (l := B) HRB5.out (by have := HLN.out; omega) HNB.out).mono ?_
          rintro e w6 ⟨rfl, hb⟩
          rw [elb]
          have HB6 := hidI (bnext HB5.out hb)
          clear hb
          go_wp2_with fail
          refine (lives21 _).mono ?_
          rintro e wL ⟨rfl, hb⟩
          have HBL := hidI (bnext HB6.out hb)
          clear hb
          go_wp2_with fail
          go_ret
          exact ⟨rfl, HBL.out⟩
        · clear hla hlb
          go_wp2_with fail
          refine (length_any (l := B) HRB5.out (by have := HLN.out; omega) HNB.out).mono ?_
          rintro e w6 ⟨rfl, hb⟩
          rw [elb]
          have HB6 := hidI (bnext HB5.out hb)
          clear hb
          go_wp2_with fail
          refine (lives21 _).mono ?_
          rintro e wL ⟨rfl, hb⟩
          have HBL := hidI (bnext HB6.out hb)
          clear hb
          go_wp2_with fail
          go_ret
          exact ⟨rfl, HBL.out⟩
      · rw [ela]
        go_wp2_with fail
        refine (length_any (l := B) HRB5.out (by have := HLN.out; omega) HNB.out).mono ?_
        rintro e w6 ⟨rfl, hb⟩
        have HRA6 := hidI (Rd.below HRA5.out hb)
        have HRB6 := hidI (Rd.below HRB5.out hb)
        have HC6 := hidI (HC5.out.below hb)
        have HCC6 := hidI (Rd.below HCC5.out hb)
        have HS6 := hidI (Rd.below HS5.out hb)
        have HB6 := hidI (bnext HB5.out hb)
        have HX6 := hidI (blk hb HX5.out)
        clear hb HRA5 HRB5 HC5 HCC5 HS5 HB5 HX5
        rcases hlb with ⟨elb, hlb⟩ | ⟨elb, hlb⟩
        · rw [elb]
          clear hla hlb
          go_wp2_with fail
          refine (lives21 _).mono ?_
          rintro e wL ⟨rfl, hb⟩
          have HBL := hidI (bnext HB6.out hb)
          clear hb
          go_wp2_with fail
          go_ret
          exact ⟨rfl, HBL.out⟩
        · rw [elb]
          have HELA := hidI ela
          have hf0 : 0 ≤ first := HFN.out.1
          have hf1 : first ≤ n := HFN.out.2
          have hf2 : n ≤ 1048576 := by have := HNT.out; have := HTS.out; omega
          have hsum : first + (n - first) = n := by omega
          have m06 : w6.cell? ⟨w.heap.size, 0, none⟩ = some (.slice ca l.length ccap) := cell_of_block HX6.out rfl
          have m16 : w6.cell? ⟨w.heap.size, 1, none⟩ = some (.int .i64 mem) := cell_of_block HX6.out rfl
          have m26 : w6.cell? ⟨w.heap.size, 2, none⟩ = some (.slice cca cs.length ccca) := cell_of_block HX6.out rfl
          clear ela elb
          go_wp2_with fail
          refine (run_res HC6.out HCC6.out mem (by have := HL2.out; omega) (by have := HL2.out; omega) HS6.out (by have := HSC.out; omega) HNN.out).mono ?_
          rintro e w7 ⟨ao1, n1, c1, eo1, k1, d1, st1, rfl, ht1, hb⟩
          have hb7 : Below w6.heap.size w6 (w7.alloc (.cells #[.slice ao1 n1 c1, .slice eo1 k1 d1, .int .i64 st1] 80)) := hb.alloc hb.size _
          have htr := block_new w7 (.cells #[.slice ao1 n1 c1, .slice eo1 k1 d1, .int .i64 st1] 80)
          have hx8 := blk hb7 HX6.out
          have HT8 := hidI (fun h => (ht1 h).below (w' := w7.alloc (.cells #[.slice ao1 n1 c1, .slice eo1 k1 d1, .int .i64 st1] 80)) ((Below.refl _ _).alloc (Nat.le_refl _) _))
          have HC8 := hidI (HC6.out.below hb7)
          have HCC8 := hidI (Rd.below HCC6.out hb7)
          have HRA8 := hidI (Rd.below HRA6.out hb7)
          have HRB8 := hidI (Rd.below HRB6.out hb7)
          have HB8 := hidI (bnext HB6.out hb7)
          obtain ⟨q1, hq1⟩ : ∃ q1, q1 = w7.heap.size := ⟨_, rfl⟩
          rw [← hq1] at htr
          generalize hW8 : w7.alloc (.cells #[.slice ao1 n1 c1, .slice eo1 k1 d1, .int .i64 st1] 80) = w8 at htr hx8 HT8 HC8 HCC8 HRA8 HRB8 HB8
          have HW8 := hidI hW8
          have HTR := hidI htr
          have HX8 := hidI hx8
          clear ht1 hb hb7 htr hx8 hW8 HC6 HCC6 HS6 HB6 HX6 HRA6 HRB6 m06 m16 m26
          obtain ⟨er, her⟩ : ∃ er, er = runE mem l cs sc := ⟨_, rfl⟩
          rw [← her]
          have HER := hidI her
          clear her
          go_wp2_with fail
          rw [HW8.out, ← hq1]
          clear HW8 hq1
          obtain ⟨AB, hAB⟩ : ∃ AB, AB = A ++ B := ⟨_, rfl⟩
          have HABE := hidI hAB
          have HABL : Hid (A.length + B.length = AB.length) := hidI (by rw [hAB]; simp)
          have HNAB : Hid (∀ p ∈ AB, -9223372036854775808 ≤ p.n ∧ 0 ≤ p.kind) := hidI (fun p hp => by
            rw [HABE.out] at hp
            rcases List.mem_append.1 hp with h | h
            · exact HNA.out p h
            · exact HNB.out p h)
          have m08 : w8.cell? ⟨w.heap.size, 0, none⟩ = some (.slice ca l.length ccap) := cell_of_block HX8.out rfl
          have m18 : w8.cell? ⟨w.heap.size, 1, none⟩ = some (.int .i64 mem) := cell_of_block HX8.out rfl
          have m28 : w8.cell? ⟨w.heap.size, 2, none⟩ = some (.slice cca cs.length ccca) := cell_of_block HX8.out rfl
          have HM3 : Hid (∀ W, Below w8.heap.size w8 W → W.cell? ⟨w.heap.size, 0, none⟩ = some (.slice ca l.length ccap) ∧ W.cell? ⟨w.heap.size, 1, none⟩ = some (.int .i64 mem) ∧ W.cell? ⟨w.heap.size, 2, none⟩ = some (.slice cca cs.length ccca)) := hidI (fun W hW => by
            have h9 := hW.block w.heap.size (lt_of_block HX8.out)
            exact ⟨(World.cell?_of_block h9).trans m08, (World.cell?_of_block h9).trans m18, (World.cell?_of_block h9).trans m28⟩)
          clear hAB
          go_cut [17, 11] from 127 to 136 (fun v17 v11 wx => ∃ q ao n c eo m d st base, v17 = .pointer (some ⟨q, 0, none⟩) ∧ v11 = .int .i64 (runE mem l cs AB) ∧ Hid (wx.heap[q]? = some (.cells #[.slice ao n c, .slice eo m d, .int .i64 st] 80 (0, 0))) ∧ Hid (runE mem l cs AB = 0 → TraceIn (doActs (newM mem (l.map (·.2)) cs, 0) (actsS AB)) wx base (.slice ao n c) (.slice eo m d) st) ∧ Hid (Below w8.heap.size w8 wx))
          case first =>
            obtain ⟨i0, hi, hz0, hz1, hz2⟩ := info_parts pkInfo
            go_region_held3 (fun W => W.cell? ⟨w.heap.size, 0, none⟩ = some (.slice ca l.length ccap) ∧ W.cell? ⟨w.heap.size, 1, none⟩ = some (.int .i64 mem) ∧ W.cell? ⟨w.heap.size, 2, none⟩ = some (.slice cca cs.length ccca)) ((refine HM3.out _ ?_; first | exact HB11.out | exact HG10.out.old | exact HG9.out.old | exact (Below.refl w8.heap.size w8).drew | exact (Below.refl w8.heap.size w8).drew.alloc (Nat.le_refl _) _ | exact ((Below.refl w8.heap.size w8).drew.alloc (Nat.le_refl _) _).alloc (by simp) _ | exact HG9.out.old.alloc HG9.out.old.size _ | exact HG10.out.old.alloc HG10.out.old.size _ | exact HB11.out.alloc HB11.out.size _ | exact ((HB11.out.setCell HQ8.out _).setCell HQ8.out _).setCell HQ8.out _ | exact (((HB11.out.alloc HB11.out.size _).setCell HB11.out.size _).setCell HB11.out.size _).setCell HB11.out.size _)) (first | (refine step_append_rd (w := ((w8.drew.alloc (.cells #[.slice none 0 0, .slice none 0 0, .int .i64 0] 80)).alloc (.cells #[] 85))) (by rfl) (.tmp 129) (.tmp 130) 76 (by rfl) w8.heap.size 85 i0 _ 3 24 Try.underlying76 hi hz0 hz1 hz2 rfl (by decide) (.slice (some ⟨w8.heap.size + 1, 0, none⟩) 0 0) 0 [] (by simp [Act.eval]) (by have h9 := ownsRow_mono (own_empty (w8.drew.alloc (.cells #[.slice none 0 0, .slice none 0 0, .int .i64 0] 80)) 85 3) (base' := w8.heap.size) (by simp); simpa using h9) (.slice aao A.length aac) A.length (A.flatMap encPk) (by simp [Act.eval]) (Rd.below HRA8.out ((((Below.refl w8.heap.size w8).drew.alloc (Nat.le_refl _) (.cells #[.slice none 0 0, .slice none 0 0, .int .i64 0] 80)).alloc (by simp) (.cells #[] 85)))) (one_flatP A) (by have := HLN.out; unfold maxLen; omega) (by have := HLN.out; omega) ((((Below.refl w8.heap.size w8).drew.alloc (Nat.le_refl _) (.cells #[.slice none 0 0, .slice none 0 0, .int .i64 0] 80)).alloc (by simp) (.cells #[] 85))).size ?_; intro ao9 cp9 w9 g1 g2 g3; rw [Nat.zero_add] at g1 g2; have HG9 := hidI (Grew.of (l := A) ((((Below.refl w8.heap.size w8).drew.alloc (Nat.le_refl _) (.cells #[.slice none 0 0, .slice none 0 0, .int .i64 0] 80)).alloc (by simp) (.cells #[] 85))) (fun k hk => by simp [Value.ownBlock] at hk; omega) g1 g3); have HZQ : Hid (w8.heap.size ≤ w8.heap.size) := hidI (by omega); have HZ9 := hidI (grown_keep g3 (q := w8.heap.size) (o := (.cells #[.slice none 0 0, .slice none 0 0, .int .i64 0] 80 (0, 0))) (block_alloc (block_new w8.drew (.cells #[.slice none 0 0, .slice none 0 0, .int .i64 0] 80))) (by simp [Value.ownBlock])); have HN9 : Hid (∀ g, (Value.slice ao9 A.length cp9).ownBlock = some g → g ≠ w8.heap.size) := hidI (fun g hg => by rcases g2 g hg with e | e; (simp [Value.ownBlock] at e; omega); (simp at e; omega)); simp only [Nat.zero_add]; clear g1 g2 g3) | (refine step_append_rd (w := ((w8.drew.alloc (.cells #[] 85)).alloc (.cells #[.slice none 0 0, .slice none 0 0, .int .i64 0] 80))) (by rfl) (.tmp 129) (.tmp 130) 76 (by rfl) w8.heap.size 85 i0 _ 3 24 Try.underlying76 hi hz0 hz1 hz2 rfl (by decide) (.slice (some ⟨w8.heap.size, 0, none⟩) 0 0) 0 [] (by simp [Act.eval]) (by have h9 := own_empty w8.drew 85 3; exact own_below h9 ((Below.refl _ _).alloc (Nat.le_refl _) (.cells #[.slice none 0 0, .slice none 0 0, .int .i64 0] 80))) (.slice aao A.length aac) A.length (A.flatMap encPk) (by simp [Act.eval]) (Rd.below HRA8.out ((((Below.refl w8.heap.size w8).drew.alloc (Nat.le_refl _) (.cells #[] 85)).alloc (by simp) (.cells #[.slice none 0 0, .slice none 0 0, .int .i64 0] 80)))) (one_flatP A) (by have := HLN.out; unfold maxLen; omega) (by have := HLN.out; omega) ((((Below.refl w8.heap.size w8).drew.alloc (Nat.le_refl _) (.cells #[] 85)).alloc (by simp) (.cells #[.slice none 0 0, .slice none 0 0, .int .i64 0] 80))).size ?_; intro ao9 cp9 w9 g1 g2 g3; rw [Nat.zero_add] at g1 g2; have HG9 := hidI (Grew.of (l := A) ((((Below.refl w8.heap.size w8).drew.alloc (Nat.le_refl _) (.cells #[] 85)).alloc (by simp) (.cells #[.slice none 0 0, .slice none 0 0, .int .i64 0] 80))) (fun k hk => by simp [Value.ownBlock] at hk; omega) g1 g3); have HZQ : Hid (w8.heap.size ≤ w8.heap.size + 1) := hidI (by omega); have HZ9 := hidI (grown_keep g3 (q := w8.heap.size + 1) (o := (.cells #[.slice none 0 0, .slice none 0 0, .int .i64 0] 80 (0, 0))) (block_new2 w8.drew (.cells #[] 85) (.cells #[.slice none 0 0, .slice none 0 0, .int .i64 0] 80)) (by simp [Value.ownBlock])); have HN9 : Hid (∀ g, (Value.slice ao9 A.length cp9).ownBlock = some g → g ≠ w8.heap.size + 1) := hidI (fun g hg => by rcases g2 g hg with e | e; (simp [Value.ownBlock] at e; omega); (simp at e; omega)); simp only [Nat.zero_add]; clear g1 g2 g3) | (refine step_append_rd (w := (w8.drew.alloc (.cells #[] 85))) (by rfl) (.tmp 129) (.tmp 130) 76 (by rfl) w8.heap.size 85 i0 _ 3 24 Try.underlying76 hi hz0 hz1 hz2 rfl (by decide) (.slice (some ⟨w8.heap.size, 0, none⟩) 0 0) 0 [] (by simp [Act.eval]) (by exact own_empty w8.drew 85 3) (.slice aao A.length aac) A.length (A.flatMap encPk) (by simp [Act.eval]) (Rd.below HRA8.out (((Below.refl w8.heap.size w8).drew.alloc (Nat.le_refl _) (.cells #[] 85)))) (one_flatP A) (by have := HLN.out; unfold maxLen; omega) (by have := HLN.out; omega) (((Below.refl w8.heap.size w8).drew.alloc (Nat.le_refl _) (.cells #[] 85))).size ?_; intro ao9 cp9 w9 g1 g2 g3; rw [Nat.zero_add] at g1 g2; have HG9 := hidI (Grew.of (l := A) (((Below.refl w8.heap.size w8).drew.alloc (Nat.le_refl _) (.cells #[] 85))) (fun k hk => by simp [Value.ownBlock] at hk; omega) g1 g3); simp only [Nat.zero_add]; clear g1 g2 g3) | (refine step_append_rd (w := w9) (by rfl) (.tmp 131) (.tmp 132) 76 (by rfl) w8.heap.size 85 i0 _ 3 24 Try.underlying76 hi hz0 hz1 hz2 rfl (by decide) (.slice ao9 A.length cp9) A.length (A.flatMap encPk) (by simp [Act.eval]) (HG9.out.own) (.slice bao B.length bac) B.length (B.flatMap encPk) (by simp [Act.eval]) (Rd.below HRB8.out HG9.out.old) (one_flatP B) (by have := HLN.out; unfold maxLen; omega) (by have := HLN.out; omega) HG9.out.old.size ?_; intro ao10 cp10 w10 g1 g2 g3; have HG10 := hidI (Grew.of (l := AB) HG9.out.old (fun k hk => (rowLt HG9.out.own hk).1) (by rw [← HABL.out, HABE.out, List.flatMap_append]; exact g1) g3); have HZ10 := hidI (grown_keep g3 (HZ9.out) (fun e => HN9.out _ e rfl)); clear g1 g2 g3) | (refine step_append_rd (w := (w9.alloc (.cells #[.slice none 0 0, .slice none 0 0, .int .i64 0] 80))) (by rfl) (.tmp 131) (.tmp 132) 76 (by rfl) w8.heap.size 85 i0 _ 3 24 Try.underlying76 hi hz0 hz1 hz2 rfl (by decide) (.slice ao9 A.length cp9) A.length (A.flatMap encPk) (by simp [Act.eval]) (own_below HG9.out.own ((Below.refl _ _).alloc (Nat.le_refl _) (.cells #[.slice none 0 0, .slice none 0 0, .int .i64 0] 80))) (.slice bao B.length bac) B.length (B.flatMap encPk) (by simp [Act.eval]) (Rd.below HRB8.out (HG9.out.old.alloc HG9.out.old.size (.cells #[.slice none 0 0, .slice none 0 0, .int .i64 0] 80))) (one_flatP B) (by have := HLN.out; unfold maxLen; omega) (by have := HLN.out; omega) (HG9.out.old.alloc HG9.out.old.size (.cells #[.slice none 0 0, .slice none 0 0, .int .i64 0] 80)).size ?_; intro ao10 cp10 w10 g1 g2 g3; have HG10 := hidI (Grew.of (l := AB) (HG9.out.old.alloc HG9.out.old.size (.cells #[.slice none 0 0, .slice none 0 0, .int .i64 0] 80)) (fun k hk => (rowLt HG9.out.own hk).1) (by rw [← HABL.out, HABE.out, List.flatMap_append]; exact g1) g3); have HZQ : Hid (w8.heap.size ≤ w9.heap.size) := hidI HG9.out.old.size; have HZ10 := hidI (grown_keep g3 (block_new w9 (.cells #[.slice none 0 0, .slice none 0 0, .int .i64 0] 80)) (fun e => by have := (rowLt HG9.out.own e).2; omega)); clear g1 g2 g3) | (refine step_append_rd (w := w9) (by rfl) (.tmp 131) (.tmp 132) 76 (by rfl) w8.heap.size 85 i0 _ 3 24 Try.underlying76 hi hz0 hz1 hz2 rfl (by decide) (.slice ao9 A.length cp9) A.length (A.flatMap encPk) (by simp [Act.eval]) (HG9.out.own) (.slice bao B.length bac) B.length (B.flatMap encPk) (by simp [Act.eval]) (Rd.below HRB8.out HG9.out.old) (one_flatP B) (by have := HLN.out; unfold maxLen; omega) (by have := HLN.out; omega) HG9.out.old.size ?_; intro ao10 cp10 w10 g1 g2 g3; have HG10 := hidI (Grew.of (l := AB) HG9.out.old (fun k hk => (rowLt HG9.out.own hk).1) (by rw [← HABL.out, HABE.out, List.flatMap_append]; exact g1) g3); clear g1 g2 g3) | (go_simp; go_at_call 31; rw [HABL.out]; refine (run_res (sc := AB) (HC8.out.below HG10.out.old) (Rd.below HCC8.out HG10.out.old) mem (by have := HL2.out; omega) (by have := HL2.out; omega) (by have h9 := Rd.of_own HG10.out.own; rw [HABL.out] at h9; exact h9) (by have := HLN.out; have := HABL.out; omega) HNAB.out).mono ?_; rintro e w11 ⟨ao2, n2, c2, eo2, k2, d2, st2, rfl, ht2, hb11⟩; have HB11 := hidI (HG10.out.old.trans (hb11.mono HG10.out.old.size));  have HT11 := hidI ht2; have hz := blk hb11 (HZ10.out); have HZ11 := hidI hz; have HQ11 := hidI (lt_of_block HZ10.out); have HQ8 := hidI (HZQ.out); have fr0 := free_of_block (o := 0) hz; have fr1 := free_of_block (o := 1) hz; have fr2 := free_of_block (o := 2) hz; have rr0 := cell_of_block (o := 0) hz rfl; have rr1 := cell_of_block (o := 1) hz rfl; have rr2 := cell_of_block (o := 2) hz rfl; clear hz; clear ht2 hb11; dsimp only) | (go_simp; go_at_call 31; rw [HABL.out]; refine (run_res (sc := AB) (HC8.out.below (HG10.out.old.alloc HG10.out.old.size (.cells #[.slice none 0 0, .slice none 0 0, .int .i64 0] 80))) (Rd.below HCC8.out (HG10.out.old.alloc HG10.out.old.size (.cells #[.slice none 0 0, .slice none 0 0, .int .i64 0] 80))) mem (by have := HL2.out; omega) (by have := HL2.out; omega) (by have h9 := Rd.of_own (own_below HG10.out.own ((Below.refl _ _).alloc (Nat.le_refl _) (.cells #[.slice none 0 0, .slice none 0 0, .int .i64 0] 80))); rw [HABL.out] at h9; exact h9) (by have := HLN.out; have := HABL.out; omega) HNAB.out).mono ?_; rintro e w11 ⟨ao2, n2, c2, eo2, k2, d2, st2, rfl, ht2, hb11⟩; have HB11 := hidI ((HG10.out.old.alloc HG10.out.old.size (.cells #[.slice none 0 0, .slice none 0 0, .int .i64 0] 80)).trans (hb11.mono (HG10.out.old.alloc HG10.out.old.size (.cells #[.slice none 0 0, .slice none 0 0, .int .i64 0] 80)).size));  have HT11 := hidI ht2; have hz := blk hb11 (block_new w10 (.cells #[.slice none 0 0, .slice none 0 0, .int .i64 0] 80)); have HZ11 := hidI hz; have HQ11 := hidI (lt_of_block (block_new w10 (.cells #[.slice none 0 0, .slice none 0 0, .int .i64 0] 80))); have HQ8 := hidI (HG10.out.old.size); have fr0 := free_of_block (o := 0) hz; have fr1 := free_of_block (o := 1) hz; have fr2 := free_of_block (o := 2) hz; have rr0 := cell_of_block (o := 0) hz rfl; have rr1 := cell_of_block (o := 1) hz rfl; have rr2 := cell_of_block (o := 2) hz rfl; clear hz; clear ht2 hb11; dsimp only) | (go_simp; go_at_call 31; rw [HABL.out]; refine (run_res (sc := AB) (HC8.out.below HG10.out.old) (Rd.below HCC8.out HG10.out.old) mem (by have := HL2.out; omega) (by have := HL2.out; omega) (by have h9 := Rd.of_own HG10.out.own; rw [HABL.out] at h9; exact h9) (by have := HLN.out; have := HABL.out; omega) HNAB.out).mono ?_; rintro e w11 ⟨ao2, n2, c2, eo2, k2, d2, st2, rfl, ht2, hb11⟩; have HB11 := hidI (HG10.out.old.trans (hb11.mono HG10.out.old.size));  have HT11 := hidI ht2; clear ht2 hb11; dsimp only))
            all_goals (go_wp2_with fail)
            all_goals go_meet
            all_goals (
              first
              | exact ⟨_, ao2, n2, c2, eo2, k2, d2, st2, _, rfl, rfl, hidI (block_setCell (o := 2) _ (block_setCell (o := 1) _ (block_setCell (o := 0) _ HZ11.out))), hidI (fun h => (HT11.out h).poke (.inl HQ11.out) _ _ _), hidI (((HB11.out.setCell HQ8.out _).setCell HQ8.out _).setCell HQ8.out _)⟩
              | exact ⟨_, ao2, n2, c2, eo2, k2, d2, st2, _, rfl, rfl, hidI (block_new w11 _), hidI (fun h => (HT11.out h).below ((Below.refl _ _).alloc (Nat.le_refl _) _)), hidI (HB11.out.alloc HB11.out.size _)⟩)
          case rest =>
          obtain ⟨q2, ao2, n2, c2, eo2, k2, d2, st2, base2, rfl, rfl, HZ2, HT2', HBW⟩ := hcut
          have HC9 := hidI (HC8.out.below HBW.out)
          have HCC9 := hidI (Rd.below HCC8.out HBW.out)
          have HRA9 := hidI (Rd.below HRA8.out HBW.out)
          have HB9 := hidI (bnext HB8.out HBW.out)
          have HTR9 := hidI (blk HBW.out HTR.out)
          have HT9 := hidI (fun h => (HT8.out h).below HBW.out)
          have hm9 := HM3.out _ HBW.out
          obtain ⟨m09, m19, m29⟩ := hm9
          clear HC8 HCC8 HRA8 HRB8 HB8 HTR HT8 HX8 m08 m18 m28 HM3 HBW
          go_wp2_with fail
          refine (run_res (sc := A) HC9.out HCC9.out mem (by have := HL2.out; omega) (by have := HL2.out; omega) HRA9.out (by have := HLN.out; omega) HNA.out).mono ?_
          rintro e w12 ⟨ao3, n3, c3, eo3, k3, d3, st3, rfl, ht3, hb⟩
          have hb12 : Below wc.heap.size wc (w12.alloc (.cells #[.slice ao3 n3 c3, .slice eo3 k3 d3, .int .i64 st3] 80)) := hb.alloc hb.size _
          have htr := block_new w12 (.cells #[.slice ao3 n3 c3, .slice eo3 k3 d3, .int .i64 st3] 80)
          have HT1 := hidI (fun h => (HT9.out h).below hb12)
          have HT2 := hidI (fun h => (HT2'.out h).below hb12)
          have HT3 := hidI (fun h => (ht3 h).below (w' := w12.alloc (.cells #[.slice ao3 n3 c3, .slice eo3 k3 d3, .int .i64 st3] 80)) ((Below.refl _ _).alloc (Nat.le_refl _) _))
          have hz1 := blk hb12 HTR9.out
          have hz2 := blk hb12 HZ2.out
          have HB13 := hidI (bnext HB9.out hb12)
          obtain ⟨q3, hq3⟩ : ∃ q3, q3 = w12.heap.size := ⟨_, rfl⟩
          rw [← hq3] at htr
          generalize hW13 : w12.alloc (.cells #[.slice ao3 n3 c3, .slice eo3 k3 d3, .int .i64 st3] 80) = w13 at htr hz1 hz2 HT1 HT2 HT3 HB13
          have HW13 := hidI hW13
          have HZ1 := hidI hz1
          have HZ2' := hidI hz2
          have HZ3 := hidI htr
          clear ht3 hb hb12 htr hz1 hz2 hW13 HC9 HCC9 HRA9 HB9 HTR9 HT9 HT2' HZ2 m09 m19 m29
          obtain ⟨er3, her3⟩ : ∃ er3, er3 = runE mem l cs A := ⟨_, rfl⟩
          obtain ⟨er2, her2⟩ : ∃ er2, er2 = runE mem l cs AB := ⟨_, rfl⟩
          rw [← her3, ← her2]
          rw [← her3] at HT3
          rw [← her2] at HT2
          rw [← HER.out] at HT1
          have hcases : (er ≠ 0 ∧ er3 = er) ∨ (er = 0 ∧ er3 = 0 ∧ (er2 = 3 ∨ er2 = 0)) := by
            rw [HER.out, her3, her2]
            unfold runE
            by_cases hk : checkM mem l cs = 0
            · refine .inr ?_
              rw [if_neg (by simpa using hk), if_neg (by simpa using hk), if_neg (by simpa using hk)]
              refine ⟨HE1.out.symm, by rw [HELA.out], ?_⟩
              have hAB : AB.any pbad = false := by rw [HABE.out, List.any_append, HINV.out.ba, HINV.out.bb]; rfl
              rcases len_side hAB (by rw [HABE.out, total_app]; have := HTA.out; have := HTB.out; omega) with h | h
              · exact .inl (by rw [h.1])
              · exact .inr (by rw [h.1])
            · refine .inl ?_
              rw [if_pos hk, if_pos hk]
              exact ⟨hk, rfl⟩
          clear her3 her2
          rcases hcases with ⟨h1, rfl⟩ | ⟨rfl, rfl, h2⟩
          · have heq : (er3 == 0) = false := by simpa using h1
            have hne : (er3 != 0) = true := by simpa using h1
            go_wp2_with fail
            rw [HW13.out]
            refine (lives21 _).mono ?_
            rintro e wL ⟨rfl, hb⟩
            have HBL := hidI (bnext HB13.out hb)
            clear hb
            go_wp2_with fail
            go_ret
            exact ⟨rfl, HBL.out⟩
          · rcases h2 with rfl | rfl
            · go_wp2_with fail
              rw [HW13.out]
              refine (lives21 _).mono ?_
              rintro e wL ⟨rfl, hb⟩
              have HBL := hidI (bnext HB13.out hb)
              clear hb
              go_wp2_with fail
              go_ret
              exact ⟨rfl, HBL.out⟩
            · have hk0 : checkM mem l cs = 0 := by
                have h9 := HER.out
                unfold runE at h9
                split at h9
                · rename_i hc; exact absurd h9.symm hc
                · rename_i hc; simpa using hc
              have hac := HINV.out.acts
              simp only at hac
              have hact : actsS AB = actsS sc := by
                rw [← hac, HABE.out]
                simp [actsS]
              have t1 := HT1.out rfl
              have t2 := HT2.out rfl
              have t3 := HT3.out rfl
              rw [hact] at t2
              obtain ⟨SF, hSF⟩ : ∃ SF, SF = doActs (newM mem (l.map (·.2)) cs, 0) (actsS sc) := ⟨_, rfl⟩
              obtain ⟨SP, hSP⟩ : ∃ SP, SP = doActs (newM mem (l.map (·.2)) cs, 0) (actsS A) := ⟨_, rfl⟩
              have hFP : SF = doActs SP (actsS B) := by rw [hSP, ← doActs_app, hac, hSF]
              rw [← hSF] at t1 t2
              rw [← hSP] at t3
              have hlat := acts_later (actsS B) SP
              rw [← hFP] at hlat
              have hlsc := lengthS_ok HE1.out.symm
              have hmok : MOk 1048576 SF.1 := by
                rw [hSF]
                refine (acts_ok (actsS sc) (newM_ok H.out hk0)).mono ?_
                have h9 := acts_len (l := sc) hlsc.2.1 (short_of_total hlsc.2.1 hlsc.2.2.1)
                have h10 := hlsc.2.2.1
                omega
              obtain ⟨h1a, a1, ls1, ac1, v1, vc1, e1, f1, r1, s1, m1, w1'⟩ := t1
              obtain ⟨h2a, a2, ls2, ac2, v2, vc2, e2, f2, r2, s2, m2, w2'⟩ := t2
              obtain ⟨h3a, a3, ls3, ac3, v3, vc3, e3, f3, r3, s3, m3, w3'⟩ := t3
              simp only [Value.slice.injEq] at e1 f1 e2 f2 e3 f3
              obtain ⟨rfl, rfl, rfl⟩ := e1
              obtain ⟨rfl, rfl, rfl⟩ := f1
              obtain ⟨rfl, rfl, rfl⟩ := e2
              obtain ⟨rfl, rfl, rfl⟩ := f2
              obtain ⟨rfl, rfl, rfl⟩ := e3
              obtain ⟨rfl, rfl, rfl⟩ := f3
              subst h1a
              subst h2a
              subst h3a
              have hbd := trace_bounds hmok m1
              have hl31 : ls3.length = ls1.length := by
                have g1 := congrArg List.length m1
                have g3 := congrArg List.length m3
                simp only [List.length_map] at g1 g3
                rw [g1, g3, hlat.2.len]
              have hev := hmok.evs
              have hpre := hlat.2.evs
              have hlev : SP.1.evs.length ≤ SF.1.evs.length := hpre.length_le
              have hcap : SF.1.evs.length ≤ _ := (Rd.of_own w1').cap_le
              have sa1 : SeenAt w13 _ ls1 := ⟨Rd.of_own r1, fun s hs => Rd.of_own (s1 s hs)⟩
              have sa2 : SeenAt w13 _ ls2 := ⟨Rd.of_own r2, fun s hs => Rd.of_own (s2 s hs)⟩
              have sa3 : SeenAt w13 _ ls3 := ⟨Rd.of_own r3, fun s hs => Rd.of_own (s3 s hs)⟩
              have HS1 := hidI sa1
              have HS2' := hidI sa2
              have HS3' := hidI sa3
              have HV1 := hidI (Rd.of_own w1')
              have HV2 := hidI (Rd.of_own w2')
              have HV3 := hidI (Rd.of_own w3')
              have HVP := hidI (rd_prefix encEv_len (Rd.of_own w1') hpre rfl)
              have HM12 := hidI (m1.trans m2.symm)
              have HM1 := hidI m1
              have HM3' := hidI m3
              have HBD : Hid (ls1.length ≤ 262144 ∧ ∀ s ∈ ls1, s.out.length ≤ 2000000000) := hidI ⟨by have := hbd.1; omega, fun s hs => by have := hbd.2 s hs; omega⟩
              have HEV : Hid (SF.1.evs.length ≤ 1048576) := hidI hev
              have HLAT := hidI hlat
              have HL31 := hidI hl31
              have hd1 : decide (SF.2 < SP.2) = false := by have := hlat.1; simp; omega
              have hd2 : decide ((SF.1.evs.length : Int) < (SP.1.evs.length : Int)) = false := by simp; omega
              have hd2n : decide (SF.1.evs.length < SP.1.evs.length) = false := by simp; omega
              have hd3 : ((ls3.length : Int) != (ls1.length : Int)) = false := by rw [hl31]; simp
              subst hq3
              rw [hl31] at HW13 HZ3
              have y10 := fun t => ext_cell (cell_of_block (o := 0) HZ1.out rfl) t
              have y11 := fun t => ext_cell (cell_of_block (o := 1) HZ1.out rfl) t
              have y12 := fun t => ext_cell (cell_of_block (o := 2) HZ1.out rfl) t
              have y20 := fun t => ext_cell (cell_of_block (o := 0) HZ2'.out rfl) t
              have y21 := fun t => ext_cell (cell_of_block (o := 1) HZ2'.out rfl) t
              have y22 := fun t => ext_cell (cell_of_block (o := 2) HZ2'.out rfl) t
              have y30 := fun t => ext_cell (cell_of_block (o := 0) HZ3.out rfl) t
              have y31 := fun t => ext_cell (cell_of_block (o := 1) HZ3.out rfl) t
              have y32 := fun t => ext_cell (cell_of_block (o := 2) HZ3.out rfl) t
              have hlb1 : ls1.length ≤ 262144 := HBD.out.1
              clear hact hac hSF hSP hFP hlat hlsc hmok r1 r2 r3 s1 s2 s3 m1 m2 m3 w1' w2' w3' hbd hpre hev sa1 sa2 sa3 hk0 HT1 HT2 HT3
              go_wp2_with fail
              rw [HW13.out]
              refine wp_region_grow (by kernel_rfl) (by kernel_rfl) ?_
              repeat (go_big_quiet_step ((first | (go_at_call 35; exact grow_of (sameTrace_true (HS1.out.below (ext_below w13 _)) (HS2'.out.below (ext_below w13 _)) rfl rfl HM12.out HBD.out.1 HBD.out.2 (Rd.below HV1.out (ext_below w13 _)) (Rd.below HV2.out (ext_below w13 _)) rfl rfl (by have := HEV.out; omega))) | (go_at_call 20; exact grow_of (sameEvents_eq (Rd.below HV3.out (ext_below w13 _)) (Rd.below HVP.out (ext_below w13 _)) rfl rfl (by have := HEV.out; omega))))))
              refine wpQuiet_nil ?_
              intro wQ hbQ
              have HBQ := hidI hbQ
              clear hbQ
              go_wp2_with fail
              go_loopw [19] (fun i w' => ∃ k : Nat, k ≤ ls1.length ∧ i = .int .i64 (k : Int) ∧ Hid (Below w13.heap.size w13 w')) (fun i _ => ls1.length - (intOf i).toNat)
              case atStart => exact ⟨0, by omega, rfl, HBQ⟩
              case round =>
                obtain ⟨k, hk, rfl, HBR⟩ := hrel
                have z1 := blk HBR.out HZ1.out
                have z3 := blk HBR.out HZ3.out
                have c10 : wr.cell? ⟨q1, 0, none⟩ = some (.slice ao1 ls1.length c1) := cell_of_block z1 rfl
                have c30 : wr.cell? ⟨w12.heap.size, 0, none⟩ = some (.slice ao3 ls1.length c3) := cell_of_block z3 rfl
                clear z1 z3
                by_cases hlt : k < ls1.length
                · obtain ⟨x, hx⟩ := some_at (l := ls1) hlt
                  obtain ⟨y, hy⟩ := some_at (l := ls3) (k := k) (by rw [HL31.out]; exact hlt)
                  have hpre := seen_prefix HLAT.out.2 HM3'.out HM1.out hy hx
                  have hp1 := HS1.out.below HBR.out
                  have hp3 := HS3'.out.below HBR.out
                  obtain ⟨g1, o1, rfl, hs1, hc1⟩ := RdT.at encS_len hp1.rows hx
                  have hr3 := hp3.rows
                  obtain ⟨g3, o3, rfl, hs3, hc3⟩ := RdT.at encS_len hr3 hy
                  have hxr := hp1.each x (List.mem_of_getElem? hx)
                  have hyr := hp3.each y (List.mem_of_getElem? hy)
                  obtain ⟨xa, xc, hxv⟩ := hxr.shape
                  obtain ⟨ya, yc, hyv⟩ := hyr.shape
                  have x0 := hc1 0 _ rfl
                  have y0 := hc3 0 _ rfl
                  rw [hxv] at x0 hxr
                  rw [hyv] at y0 hyr
                  simp only [Nat.add_zero] at x0 y0
                  have hle := hpre.length_le
                  have hcapx := Rd.cap_le hxr
                  have hbx := HBD.out.2 x (List.mem_of_getElem? hx)
                  have HXR := hidI (rd_prefix encI_len hxr hpre rfl)
                  have HYR := hidI hyr
                  clear hc1 hc3 hs1 hs3 hp1 hp3 hr3 hxr hyr hxv hyv hpre hx hy
                  have hd5 : decide ((x.out.length : Int) < (y.out.length : Int)) = false := by simp; omega
                  have hd6 : decide (x.out.length < y.out.length) = false := by simp; omega
                  have hyl : y.out.length ≤ 9223372036854775807 := by omega
                  go_wp2_with fail
                  refine (sameWides_true (l := y.out) HYR.out HXR.out hyl).mono ?_
                  rintro e wS ⟨rfl, hb⟩
                  have HBS := hidI (HBR.out.trans (hb.mono HBR.out.size))
                  clear hb
                  go_wp2_with fail
                  exact ⟨⟨k + 1, by omega, by go_num, HBS⟩, by simp [intOf]; omega⟩
                · obtain rfl : k = ls1.length := by omega
                  have HBF := hidI (bnext HB13.out HBR.out)
                  go_wp2_with fail
                  refine (lives21 _).mono ?_
                  rintro e wL ⟨rfl, hb⟩
                  have HBL := hidI (bnext HBF.out hb)
                  clear hb
                  go_wp2_with fail
                  go_ret
                  exact ⟨rfl, HBL.out⟩
    · have HTE := hidI hte
      have hcase : (e1 = 0 ∧ tailE sc first = 1 ∧ (first < 0 ∨ n < first) ∧ 0 ≤ n) ∨ (e1 ≠ 0 ∧ tailE sc first = e1 ∧ n = 0) := by
        by_cases h1 : e1 = 0
        · refine .inl ⟨h1, ?_⟩
          have h2 := lengthS_ok (h1 ▸ HE1.out).symm
          have h9 := HTE.out
          unfold tailE at h9 ⊢
          rw [← HE1.out, ← HN.out] at h9 ⊢
          rw [if_neg (by simp [h1])] at h9 ⊢
          have h10 : first < 0 ∨ n < first := Classical.byContradiction fun hc => h9 (if_neg hc)
          rw [if_pos h10]
          have := total_ge h2.2.1
          exact ⟨rfl, h10, by rw [HN.out, h2.2.2.2]; exact this⟩
        · refine .inr ⟨h1, ?_, ?_⟩
          · unfold tailE
            rw [← HE1.out, if_pos h1]
          · rw [HN.out]
            have h9 := HE1.out
            unfold lengthS at h9 ⊢
            split
            · rfl
            · split
              · rfl
              · split
                · rfl
                · rename_i a1 a2 a3
                  rw [if_neg a1, if_neg a2, if_neg a3] at h9
                  exact absurd h9 h1
      clear hte
      go_wp2_with fail
      refine (tail_no HS3.out (by have := HSC.out; omega) HNN.out first HTE.out).mono ?_
      rintro e w4 ⟨rfl, hb⟩
      have HB4 := hidI (bnext HB3.out hb)
      clear hb
      generalize tailE sc first = te at *
      rcases hcase with ⟨rfl, rfl, hf, hn0⟩ | ⟨h1, rfl, rfl⟩
      · by_cases hf0 : first < 0
        · clear hf
          go_wp2_with fail
          refine (lives21 _).mono ?_
          rintro e wL ⟨rfl, hb⟩
          have HBL := hidI (bnext HB4.out hb)
          clear hb
          go_wp2_with fail
          go_ret
          exact ⟨rfl, HBL.out⟩
        · have hf1 : first > n := by omega
          clear hf
          go_wp2_with fail
          refine (lives21 _).mono ?_
          rintro e wL ⟨rfl, hb⟩
          have HBL := hidI (bnext HB4.out hb)
          clear hb
          go_wp2_with fail
          go_ret
          exact ⟨rfl, HBL.out⟩
      · have heq : (te == 0) = false := by simpa using h1
        have hne : (te != 0) = true := by simpa using h1
        go_wp2_with fail
        refine (lives21 _).mono ?_
        rintro e wL ⟨rfl, hb⟩
        have HBL := hidI (bnext HB4.out hb)
        clear hb
        go_wp2_with fail
        go_ret
        exact ⟨rfl, HBL.out⟩
end Go.Proofs.Ytnechkhgceeejaa

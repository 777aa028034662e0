/- Package tso: TsoApart: a machine and its copy are apart. -/
import Derived.Test.YtnechkhgceeejaaTsoAb
import Derived.Test.YtnechkhgceeejaaTsoCf
import Derived.Test.YtnechkhgceeejaaTsoZ
import Derived.Test.YtnechkhgceeejaaTsoNb
import Derived.Test.YtnechkhgceeejaaTsoW
import Derived.Test.YtnechkhgceeejaaTsoR
import Derived.Test.YtnechkhgceeejaaCellsS
import Derived.Deep.CutRange
import Derived.StillTailTactics
import Derived.Deep.RegionHeld3
namespace Go.Proofs.Ytnechkhgceeejaa
open Go.RowKit
set_option linter.unusedVariables false
set_option linter.unusedSimpArgs false

variable {w w' : World}

/-- a bound may grow -/
theorem Fleet.more1 {base b N : Nat} {own : Nat → Nat} {mm : MM} (h : Fleet w base [⟨b, own, mm, N⟩]) : Fleet w base [⟨b, own, mm, N + 1⟩] :=
  ⟨fun m hm => by
    rw [List.mem_singleton.1 hm]
    obtain ⟨h1, h2⟩ := h.each _ (List.mem_singleton.2 rfl)
    exact ⟨h1, h2.mono (by simp)⟩, fun i j m n hne hi hj => by
    have a1 := (List.getElem?_eq_some_iff.1 hi).1
    have a2 := (List.getElem?_eq_some_iff.1 hj).1
    simp only [List.length_singleton] at a1 a2
    omega, fun m hm => by
    rw [List.mem_singleton.1 hm]
    exact h.low ⟨b, own, mm, N⟩ (List.mem_singleton.2 rfl), h.here⟩

/-- At of any thread -/
theorem at_all {base : Nat} {ms : List Mach} (hf : Fleet w base ms) {i : Nat} {m : Mach} (hi : ms[i]? = some m) (z : Int) :
    Calls Try.prog 17 #[.pointer (some ⟨m.b, 0, none⟩), .int .i64 z] w fun e w' => ∃ (at_ : Int) (is : Bool), e = .returned (.tuple #[.int .i64 at_, .bool is]) ∧ w' = w ∧ Hid (is = true → ∃ (n : Nat) (t : MT), z = (n : Int) ∧ m.mm.ths[n]? = some t ∧ at_ = t.at_) ∧ Hid (is = false → z < 0 ∨ (m.mm.ths.length : Int) ≤ z) := by
  by_cases hin : 0 ≤ z ∧ z < (m.mm.ths.length : Int)
  · obtain ⟨n, rfl⟩ : ∃ n : Nat, z = (n : Int) := ⟨z.toNat, by omega⟩
    obtain ⟨t, ht⟩ := some_at (show n < m.mm.ths.length by omega)
    refine (at_f hf hi ht).mono ?_
    rintro e w6 ⟨rfl, rfl⟩
    exact ⟨_, _, rfl, rfl, hidI (fun _ => ⟨n, t, rfl, ht, rfl⟩), hidI (fun h => by cases h)⟩
  · obtain ⟨⟨xs5, mv5, tv5, ev5, hm5⟩, hk5⟩ := hf.each m (List.mem_of_getElem? hi)
    have hl := ths_len hm5.same
    refine (at_no hm5 (by omega)).mono ?_
    rintro e w6 ⟨rfl, rfl⟩
    exact ⟨_, _, rfl, rfl, hidI (fun h => by cases h), hidI (fun _ => by omega)⟩

/-- what is seen, by its length and its places -/
theorem seen_fl {base : Nat} {ms : List Mach} (hf : Fleet w base ms) {i : Nat} {m : Mach} (hi : ms[i]? = some m) (hN : m.N ≤ 1000000000) {n : Nat} (hn : m.mm.ths.length = n) :
    Calls Try.prog 18 #[.pointer (some ⟨m.b, 0, none⟩)] w fun r w' => ∃ ao cap ls, r = .returned (.slice ao n cap) ∧ SeenAt w' (.slice ao n cap) ls ∧ Hid (∀ (i : Nat) t, m.mm.ths[i]? = some t → ∃ s, ls[i]? = some s ∧ s.out = t.out ∧ s.fin = t.fin) ∧ Below w.heap.size w w' := by
  subst hn
  refine (seen_f hf hi hN).mono ?_
  rintro r w' ⟨v, ls, rfl, hsa, hms, hb⟩
  obtain ⟨ao, cap, rfl⟩ := hsa.rows.shape
  have hl : ls.length = m.mm.ths.length := by simpa using congrArg List.length hms
  rw [hl] at hsa ⊢
  refine ⟨ao, cap, ls, rfl, hsa, hidI fun i t ht => ?_, hb⟩
  have h1 : (ls.map (fun s => (s.out, s.fin)))[i]? = some (t.out, t.fin) := by rw [hms, List.getElem?_map, ht]; rfl
  rw [List.getElem?_map] at h1
  cases hs : ls[i]? with
  | none => rw [hs] at h1; cases h1
  | some s =>
    rw [hs] at h1
    simp only [Option.map_some, Option.some.injEq, Prod.mk.injEq] at h1
    exact ⟨s, rfl, h1.1, h1.2⟩
/-- a row of what is seen -/
theorem SeenAt.place {n k : Nat} {ao : Option Addr} {cap : Nat} {ls : List SX} {s : SX} (h : SeenAt w (.slice ao n cap) ls) (hs : ls[k]? = some s) :
    ∃ g o pa pc, ao = some ⟨g, o, none⟩ ∧ w.cell? ⟨g, o + k * 2, none⟩ = some (.slice pa s.out.length pc) ∧ w.cell? ⟨g, o + k * 2 + 1, none⟩ = some (.int .u8 s.fin) ∧ RdT encI w 1 (.slice pa s.out.length pc) s.out := by
  obtain ⟨ao', cap', e⟩ := h.rows.shape
  obtain ⟨g, o, e0, -, hcc⟩ := RdT.at encS_len (by rw [← e]; exact h.rows) hs
  cases e0
  cases e
  have i0 := hcc 0 _ rfl
  have i1 := hcc 1 _ rfl
  have hr := h.each s (List.mem_of_getElem? hs)
  obtain ⟨aq, cq, hq⟩ := hr.shape
  rw [hq] at i0 hr
  exact ⟨g, o, aq, cq, rfl, i0, i1, hr⟩
theorem SeenAt.below_ap {v : Value} {ls : List SX} (h : SeenAt w v ls) (hb : Below w.heap.size w w') : SeenAt w' v ls :=
  ⟨Rd.below h.rows hb, fun s hs => Rd.below (h.each s hs) hb⟩
theorem waiting_f {base : Nat} {ms : List Mach} (hf : Fleet w base ms) {i : Nat} {m : Mach} (hi : ms[i]? = some m) {n : Nat} {t : MT} (ht : m.mm.ths[n]? = some t) :
    Calls Try.prog 25 #[.pointer (some ⟨m.b, 0, none⟩), .int .i64 (n : Int)] w (AllPost t.wait w) := by
  obtain ⟨⟨xs, mv, tv, ev, hm⟩, hk⟩ := hf.each m (List.mem_of_getElem? hi)
  rw [hm.same, List.getElem?_map] at ht
  cases hx : xs[n]? with
  | none => rw [hx] at ht; cases ht
  | some x =>
    rw [hx] at ht
    simp only [Option.map_some, Option.some.injEq] at ht
    subst ht
    obtain ⟨tb, cap, rfl, -⟩ := hm.tslice hx
    exact waiting_yes hm hx
/-- a thread that the step left -/
theorem step_same (M : MM) (z : Int) {k : Nat} (hk : k < M.ths.length) (h : (k : Int) ≠ z ∨ (M.step z).1 = false) : ∃ t, (M.step z).2.ths[k]? = some t ∧ M.ths[k]? = some t := by
  obtain ⟨t, ht⟩ := some_at hk
  rcases h with h | h
  · exact ⟨t, by rw [step_other M z h]; exact ht, ht⟩
  · exact ⟨t, by rw [step_false M z h]; exact ht, ht⟩

/-- a step that was one is a thread's -/
theorem step_there (M : MM) (z : Int) (h : (M.step z).1 = true) : 0 ≤ z ∧ z < (M.ths.length : Int) := by
  unfold MM.step at h
  split at h
  · cases h
  · rename_i t ht
    have h1 := thr_mem ht
    have h2 := (List.getElem?_eq_some_iff.1 h1.2).1
    omega
/-- a thread's row of what is seen -/
theorem SeenAt.thread {n k : Nat} {ao : Option Addr} {cap : Nat} {ls : List SX} {o : List Int} {f : Int} (h : SeenAt w (.slice ao n cap) ls) (hs : ∃ s, ls[k]? = some s ∧ s.out = o ∧ s.fin = f) :
    ∃ g c pa pc, ao = some ⟨g, c, none⟩ ∧ w.cell? ⟨g, c + k * 2, none⟩ = some (.slice pa o.length pc) ∧ w.cell? ⟨g, c + k * 2 + 1, none⟩ = some (.int .u8 f) ∧ RdT encI w 1 (.slice pa o.length pc) o := by
  obtain ⟨s, h1, rfl, rfl⟩ := hs
  exact h.place h1

set_option maxRecDepth 100000 in
set_option maxHeartbeats 4000000 in
theorem apart_any {ca cca sa : Option Addr} {ccap ccca scap : Nat} {l : List (Value × List OpD)} {cs : List (Int × Int)} {sc : List ActD} {mem th : Int} (h : CodeAt w (.slice ca l.length ccap) l) (hc : RdT encCell w 2 (.slice cca cs.length ccca) cs) (hs : RdT encAc w 3 (.slice sa sc.length scap) sc)
    (hl : l.length ≤ 9223372036854775807) (hcl : cs.length ≤ 9223372036854775807) (hol : ∀ p ∈ l, p.2.length ≤ 9223372036854775807) (hsl : sc.length ≤ 9223372036854775807) (hok : ∀ p ∈ sc, ActOk p) (hth : in64 th) :
    Calls Try.prog 5 #[.agg #[.slice ca l.length ccap, .int .i64 mem, .slice cca cs.length ccca], .slice sa sc.length scap, .int .i64 th] w fun e w' => e = .returned (.bool true) ∧ Below w.heap.size w w' := by
  have H := hidI h
  have HC := hidI hc
  have HS := hidI hs
  have HL := hidI hl
  have HCL := hidI hcl
  have HOL := hidI hol
  have HSL := hidI hsl
  have HOK := hidI hok
  clear h hc hs hl hcl hol hsl hok
  go_enter Try.func5, Try.ntmps5
  go_wp2_with fail
  have hb0 : Below w.heap.size w (w.alloc (.cells #[.slice ca l.length ccap, .int .i64 mem, .slice cca cs.length ccca] 56)) := (Below.refl _ _).alloc (Nat.le_refl _) _
  have hbox := block_new w (.cells #[.slice ca l.length ccap, .int .i64 mem, .slice cca cs.length ccca] 56)
  have H0 := hidI (H.out.below hb0)
  have HC0 := hidI (Rd.below HC.out hb0)
  have HS0 := hidI (Rd.below HS.out hb0)
  have HB0 := hidI hb0
  have HX0 := hidI hbox
  clear hb0 hbox
  refine (imageSize_any (cca := cca) (ccca := ccca) (cs := cs) H0.out mem HL.out HCL.out HOL.out).mono ?_
  rintro e w1 ⟨z, rfl, hz, hzl, hb⟩
  have HZ := hidI hz
  have HZL := hidI hzl
  have HC1 := hidI (H0.out.below hb)
  have HCC1 := hidI (Rd.below HC0.out hb)
  have HS1 := hidI (Rd.below HS0.out hb)
  have HB1 := hidI (bnext HB0.out hb)
  have HX1 := hidI (blk hb HX0.out)
  clear hz hzl hb H0 HC0 HS0 HB0 HX0
  go_wp2_with fail
  have hbb : Below w1.heap.size w1 (w1.alloc (.cells #[.int .i64 z, .int .i64 (sc.length : Int)] 3)) := (Below.refl _ _).alloc (Nat.le_refl _) _
  refine (beyond2 (y := z) (z := (sc.length : Int)) (block_new w1 _) (by have := HZ.out; omega) (by have := HSL.out; omega)).mono ?_
  rintro e w2 ⟨r, rfl, hr, hb⟩
  have hb2 := bnext hbb hb
  have HC2 := hidI (HC1.out.below hb2)
  have HCC2 := hidI (Rd.below HCC1.out hb2)
  have HS2 := hidI (Rd.below HS1.out hb2)
  have HB2 := hidI (bnext HB1.out hb2)
  have hx2 := blk hb2 HX1.out
  have HX2 := hidI hx2
  clear hb hbb hb2 HC1 HCC1 HS1 HB1 HX1
  cases r with
  | true =>
    clear hx2
    go_wp2_with fail
    go_ret
    exact ⟨rfl, HB2.out⟩
  | false =>
    have hr' := hr rfl
    have hl2 := HZL.out hr'.1
    have hsc := hr'.2
    have HL2 := hidI hl2
    have HSC : Hid (sc.length ≤ 262144) := hidI (by omega)
    have m0 : w2.cell? ⟨w.heap.size, 0, none⟩ = some (.slice ca l.length ccap) := cell_of_block hx2 rfl
    have m1 : w2.cell? ⟨w.heap.size, 1, none⟩ = some (.int .i64 mem) := cell_of_block hx2 rfl
    have m2 : w2.cell? ⟨w.heap.size, 2, none⟩ = some (.slice cca cs.length ccca) := cell_of_block hx2 rfl
    clear hr hr' hl2 hsc hx2 HZ HZL
    go_wp2_with fail
    by_cases hk : checkM mem l cs = 0
    · refine (new_yes HC2.out HCC2.out mem (by have := HL2.out; omega) (by have := HL2.out; omega) hk).mono ?_
      rintro e w3 ⟨b, own, xs, mv, tv, rfl, hm, hb⟩
      have hok := newM_ok HC2.out hk
      obtain ⟨own', hf⟩ := (Fleet.none w2 (base := w2.heap.size) (Nat.le_refl _)).more hb hm hok
      have HF := hidI hf
      have HS3 := hidI (Rd.below HS2.out hb)
      have HC3 := hidI (HC2.out.below hb)
      have HB3 := hidI (bnext HB2.out hb)
      have HX3 := hidI (blk hb HX2.out)
      have HB23 := hidI hb
      have m0' : w3.cell? ⟨w.heap.size, 0, none⟩ = some (.slice ca l.length ccap) := cell_of_block HX3.out rfl
      clear hf hm hok hb m0 m1 m2
      go_wp2_with fail
      go_loopw [9] (fun i w' => ∃ k : Nat, k ≤ sc.length ∧ k ≤ 2000 ∧ i = .int .i64 (k : Int) ∧ Hid (∃ own, Fleet w' w2.heap.size [⟨b, own, (newM mem (l.map (·.2)) cs).doAll (sc.take k), k⟩]) ∧ Hid (Below w2.heap.size w2 w')) (fun i _ => ((sc.length : Int) - intOf i).toNat)
      case atStart => exact ⟨0, by omega, by omega, rfl, hidI ⟨_, HF.out⟩, HB23⟩
      case round =>
        obtain ⟨k, hk1, hk2, rfl, HR, HBR⟩ := hrel
        obtain ⟨own2, hfl⟩ := HR.out
        by_cases hgo : k < sc.length ∧ k < 2000
        · obtain ⟨hg1, hg2⟩ := hgo
          obtain ⟨a, ha⟩ := some_at hg1
          obtain ⟨g0, o0, e0, hgx, hcc⟩ := RdT.at encAc_len (Rd.below HS2.out HBR.out) ha
          cases e0
          have k0 := hcc 0 _ rfl
          have k1 := hcc 1 _ rfl
          simp only [Nat.add_zero] at k0 k1
          have HFL := hidI hfl
          have hok1 := HOK.out a (List.mem_of_getElem? ha)
          have htk := MM.doAll_snoc (newM mem (l.map (·.2)) cs) ha
          clear hcc hfl
          by_cases hk1' : a.kind = 1
          · have hd : ∀ m : MM, m.does a = (m.flush a.th).2 := fun m => if_pos hk1'
            rw [hk1'] at k0
            go_wp2_with fail
            refine (flush_f HFL.out (i := 0) rfl a.th).mono ?_
            rintro e w5 ⟨rfl, ⟨own5, hf5⟩, hb5⟩
            have HF5 := hidI hf5
            have HB5 := hidI (HBR.out.trans hb5)
            clear hf5 hb5
            go_wp2_with fail
            exact ⟨⟨k + 1, by omega, by omega, by go_num, hidI ⟨own5, by rw [htk, hd]; exact HF5.out.more1⟩, HB5⟩, by simp [intOf]; omega⟩
          · have hd : ∀ m : MM, m.does a = (m.step a.th).2 := fun m => if_neg hk1'
            have hne : (a.kind == 1) = false := by simpa using hk1'
            go_wp2_with fail
            refine (step_f HFL.out (i := 0) rfl (by simp only; omega) a.th).mono ?_
            rintro e w5 ⟨rfl, ⟨own5, hf5⟩, hb5⟩
            have HF5 := hidI hf5
            have HB5 := hidI (HBR.out.trans hb5)
            clear hf5 hb5
            go_wp2_with fail
            exact ⟨⟨k + 1, by omega, by omega, by go_num, hidI ⟨own5, by rw [htk, hd]; exact HF5.out⟩, HB5⟩, by simp [intOf]; omega⟩
        · go_upto_region 7 with fail
          go_cut [54] from 47 to 54 (fun v wx => v = .bool false ∧ wx = wr)
          case first =>
            go_wp2_with fail
            all_goals (
              go_meet
              exact ⟨by first | rfl | exact congrArg Value.bool (decide_eq_false (by omega)), rfl⟩)
          case rest =>
          obtain ⟨rfl, hw⟩ := hcut
          obtain rfl := hw.symm
          have HFL := hidI hfl
          clear hfl
          generalize hM : (newM mem (l.map (·.2)) cs).doAll (sc.take k) = M at *
          go_wp2_with fail
          refine (copy_f HFL.out (i := 0) rfl (by simp only; omega)).mono ?_
          rintro e w5 ⟨b', own', rfl, hf5, hb5⟩
          have HF5 := hidI hf5
          have HB5 := hidI (bnext HBR.out hb5)
          clear hf5 hb5
          go_wp2_with fail
          refine (at_all HF5.out (i := 0) rfl th).mono ?_
          rintro e w6 ⟨at_, is, rfl, rfl, HIS, HNO⟩
          go_wp2_with fail
          refine (step_f HF5.out (i := 0) rfl (by simp only; omega) th).mono ?_
          rintro e w7 ⟨rfl, ⟨own7, hf7⟩, hb7⟩
          have HF7 := hidI hf7
          have HB7 := hidI (HB5.out.trans hb7)
          have m7 : w7.cell? ⟨w.heap.size, 0, none⟩ = some (.slice ca l.length ccap) := cell_of_block (blk HB7.out HX2.out) rfl
          clear hf7 hb7
          have hcd : M.codes = l.map (·.2) := by
            rw [← hM, doAll_codes]
            simp [newM, MM.codes, MT.new, Function.comp_def]
          have HCD := hidI hcd
          have HC7 := hidI (HC2.out.below HB7.out)
          clear hcd
          obtain ⟨dn, hdn⟩ : ∃ d, d = (M.step th).1 := ⟨_, rfl⟩
          simp only [← hdn]
          have HDN := hidI hdn
          clear hdn
          go_upto_region 16 with fail
          go_cut [102] from 88 to 102 (fun v wx => ∃ q : Bool, v = .bool q ∧ wx = w7 ∧ Hid (q = false → (M.step th).2.mem = M.mem) ∧ Hid (q = true → ∃ (n a : Nat) (t : MT) (p : Value × List OpD) (o : OpD), th = (n : Int) ∧ at_ = (a : Int) ∧ M.ths[n]? = some t ∧ t.at_ = (a : Int) ∧ l[n]? = some p ∧ p.2 = t.code ∧ p.2[a]? = some o))
          case first =>
            cases is with
            | false =>
              have h2 : th < 0 ∨ (M.ths.length : Int) ≤ th := HNO.out rfl
              have hm : (M.step th).2.mem = M.mem := step_memory M th fun t o ht => by
                have h1 := thr_mem ht
                have h3 := (List.getElem?_eq_some_iff.1 h1.2).1
                omega
              have HM := hidI hm
              clear h2 hm HNO HIS
              go_wp2_with fail
              go_meet
              exact ⟨false, rfl, rfl, hidI fun _ => HM.out, hidI fun h => by cases h⟩
            | true =>
              obtain ⟨n, t, rfl, ht, rfl⟩ : ∃ (n : Nat) (t : MT), th = (n : Int) ∧ M.ths[n]? = some t ∧ at_ = t.at_ := HIS.out rfl
              have htc : (l.map (·.2))[n]? = some t.code := by rw [← HCD.out, MM.codes, List.getElem?_map, ht]; rfl
              rw [List.getElem?_map] at htc
              cases hp : l[n]? with
              | none => rw [hp] at htc; cases htc
              | some p =>
                rw [hp] at htc
                simp only [Option.map_some, Option.some.injEq] at htc
                have hthr : ∀ t', M.thr (n : Int) = some t' → t' = t := fun t' h => by
                  have h1 := (thr_mem h).2
                  rw [Int.toNat_natCast, ht] at h1
                  exact (Option.some.inj h1).symm
                obtain ⟨g0, o0, e0, -, hcc⟩ := RdT.at encC_len HC7.out.rows hp
                cases e0
                have k0 := hcc 0 _ rfl
                have hrow := HC7.out.each p (List.mem_of_getElem? hp)
                obtain ⟨pa, pc, hpv⟩ := hrow.shape
                rw [hpv] at k0
                simp only [Nat.add_zero, Nat.mul_one] at k0
                have hnl : n < l.length := (List.getElem?_eq_some_iff.1 hp).1
                have hpl := HOL.out p (List.mem_of_getElem? hp)
                have HP := hidI hp
                have HTT := hidI ht
                have HCODE := hidI htc
                have HTHR := hidI hthr
                clear hthr htc hrow hcc hpv hp ht HIS HNO
                by_cases hneg : t.at_ < 0
                · have hn2 : ¬ t.at_ ≥ 0 := by omega
                  go_wp2_with fail
                  go_meet
                  exact ⟨false, rfl, rfl, hidI fun _ => step_memory M _ fun t' o h h0 _ => by
                    have := HTHR.out t' h
                    subst this
                    omega, hidI fun h => by cases h⟩
                · have hn2 : t.at_ ≥ 0 := by omega
                  by_cases hge : (p.2.length : Int) ≤ t.at_
                  · have hn3 : ¬ t.at_ < (p.2.length : Int) := by omega
                    go_wp2_with fail
                    go_meet
                    exact ⟨false, rfl, rfl, hidI fun _ => step_memory M _ fun t' o h h0 ho => by
                      have := HTHR.out t' h
                      subst this
                      rw [← HCODE.out] at ho
                      have := (List.getElem?_eq_some_iff.1 ho).1
                      omega, hidI fun h => by cases h⟩
                  · have hn3 : t.at_ < (p.2.length : Int) := by omega
                    go_wp2_with fail
                    go_meet
                    refine ⟨true, rfl, rfl, hidI fun h => (by cases h), hidI fun _ => ?_⟩
                    obtain ⟨o, ho⟩ := some_at (l := p.2) (k := t.at_.toNat) (by omega)
                    exact ⟨n, t.at_.toNat, t, p, o, rfl, by omega, HTT.out, by omega, HP.out, HCODE.out, ho⟩
          case rest =>
          obtain ⟨q, rfl, hw, HQ0, HQ1⟩ := hcut
          obtain rfl := hw.symm
          go_upto_if 102 with fail
          go_cut [14, 15] from 103 to 117 (fun v14 v15 wx => ∃ lk : Bool, v14 = .bool lk ∧ wx = w7 ∧ Hid (lk = false → (M.step th).2.mem = M.mem))
          case first =>
            cases q with
            | false =>
              have HM := hidI (HQ0.out rfl)
              clear HQ0 HQ1
              go_wp2_with fail
              go_meet
              exact ⟨false, rfl, rfl, hidI fun _ => HM.out⟩
            | true =>
              obtain ⟨n, a, t, p, o, rfl, rfl, ht, ha, hp, htc, ho⟩ := HQ1.out rfl
              clear HQ0 HQ1 HIS HNO
              obtain ⟨g0, o0, e0, -, hcc⟩ := RdT.at encC_len HC7.out.rows hp
              cases e0
              have k0 := hcc 0 _ rfl
              have hrow := HC7.out.each p (List.mem_of_getElem? hp)
              obtain ⟨pa, pc, hpv⟩ := hrow.shape
              rw [hpv] at k0 hrow
              simp only [Nat.add_zero, Nat.mul_one] at k0
              obtain ⟨g1, o1, e1, -, hc1⟩ := RdT.at encOp_len hrow ho
              cases e1
              have q0 := hc1 0 _ rfl
              simp only [Nat.add_zero] at q0
              have hnl : n < l.length := (List.getElem?_eq_some_iff.1 hp).1
              have hal : a < p.2.length := (List.getElem?_eq_some_iff.1 ho).1
              have hpl := HOL.out p (List.mem_of_getElem? hp)
              have hm : (o.kind ≠ 8 ∧ o.kind ≠ 9) → (M.step (n : Int)).2.mem = M.mem := fun hk => step_memory M _ fun t' o' h h0 ho' => by
                have h1 := (thr_mem h).2
                rw [Int.toNat_natCast, ht] at h1
                cases h1
                rw [← htc, ha, Int.toNat_natCast, ho] at ho'
                cases ho'
                exact hk
              have HM := hidI hm
              clear hm hc1 hcc hrow hpv hp ht htc ho ha
              by_cases h8 : o.kind = 8
              · rw [h8] at q0
                go_wp2_with fail
                go_meet
                exact ⟨true, rfl, rfl, hidI fun h => by cases h⟩
              · have h8' : (o.kind == 8) = false := by simpa using h8
                by_cases h9 : o.kind = 9
                · rw [h9] at q0
                  go_wp2_with fail
                  go_meet
                  exact ⟨true, rfl, rfl, hidI fun h => by cases h⟩
                · have h9' : (o.kind == 9) = false := by simpa using h9
                  have HK := hidI (And.intro h8 h9)
                  clear h8 h9
                  go_wp2_with fail
                  go_meet
                  exact ⟨false, rfl, rfl, hidI fun _ => HM.out HK.out⟩
          case rest =>
            obtain ⟨lk, rfl, hw, HLK⟩ := hcut
            obtain rfl := hw.symm
            go_upto_region 19 with fail
            go_cut [122] from 118 to 122 (fun v wx => v = .bool false ∧ wx = w7)
            case first =>
              cases dn with
              | false =>
                go_wp2_with fail
                go_meet
                exact ⟨rfl, rfl⟩
              | true =>
                cases is with
                | true =>
                  go_wp2_with fail
                  go_meet
                  exact ⟨rfl, rfl⟩
                | false =>
                  exfalso
                  have h1 := step_there M th HDN.out.symm
                  have h2 : th < 0 ∨ (M.ths.length : Int) ≤ th := HNO.out rfl
                  omega
            case rest =>
              obtain ⟨rfl, hw⟩ := hcut
              obtain rfl := hw.symm
              have m71 : w7.cell? ⟨w.heap.size, 1, none⟩ = some (.int .i64 mem) := cell_of_block (blk HB7.out HX2.out) rfl
              have htl : M.ths.length = l.length := by simpa [MM.codes] using congrArg List.length HCD.out
              have HTL := hidI htl
              have hl4 := HL2.out
              clear htl
              go_wp2_with fail
              go_loopw [16] (fun i wr => ∃ j : Nat, j ≤ 64 ∧ i = .int .i64 (j : Int) ∧ wr = w7) (fun i _ => (64 - intOf i).toNat)
              case atStart => exact ⟨0, by omega, rfl, rfl⟩
              case round =>
                obtain ⟨j, hj, rfl, hw⟩ := hrel
                obtain rfl := hw.symm
                by_cases hgo : (j : Int) < mem ∧ j < 64
                · obtain ⟨hg1, hg2⟩ := hgo
                  obtain ⟨va, hva⟩ : ∃ v, v = (if (M.step th).2.has (j : Int) = true then (M.step th).2.at (j : Int) else 0) := ⟨_, rfl⟩
                  obtain ⟨vb, hvb⟩ : ∃ v, v = (if M.has (j : Int) = true then M.at (j : Int) else 0) := ⟨_, rfl⟩
                  have hv : lk = false → va = vb := fun h => by rw [hva, hvb]; unfold MM.has MM.at; rw [HLK.out h]
                  have HV := hidI hv
                  have HVA := hidI hva
                  have HVB := hidI hvb
                  clear hv hva hvb
                  go_wp2_with fail
                  refine (word_f HF7.out (i := 0) rfl (j : Int)).mono ?_
                  rintro e w8 ⟨rfl, hw⟩
                  obtain rfl := hw.symm
                  simp only [← HVA.out]
                  go_wp2_with fail
                  refine (word_f HF7.out (i := 1) rfl (j : Int)).mono ?_
                  rintro e w8 ⟨rfl, hw⟩
                  obtain rfl := hw.symm
                  simp only [← HVB.out]
                  by_cases he : va = vb
                  · subst he
                    go_wp2_with fail
                    exact ⟨⟨j + 1, by omega, by go_num, by trivial⟩, by simp [intOf]; omega⟩
                  · have hne : (va == vb) = false := by simpa using he
                    cases lk with
                    | false => exact absurd (HV.out rfl) he
                    | true =>
                      clear he
                      go_wp2_with fail
                      all_goals exact ⟨⟨j + 1, by omega, by go_num, by trivial⟩, by simp [intOf]; omega⟩
                · go_upto_region 22 with fail
                  go_cut [130] from 123 to 130 (fun v wx => v = .bool false ∧ wx = w7)
                  case first =>
                    go_wp2_with fail
                    all_goals (
                      go_meet
                      exact ⟨by first | rfl | exact congrArg Value.bool (decide_eq_false (by omega)), rfl⟩)
                  case rest =>
                  obtain ⟨rfl, hw⟩ := hcut
                  obtain rfl := hw.symm
                  go_wp2_with fail
                  refine (seen_fl HF7.out (i := 0) rfl (by simp only; omega) (n := l.length) (by simp only; rw [step_ths]; exact HTL.out)).mono ?_
                  rintro e w8 ⟨ao1, cp1, ls1, rfl, hs1, HL1, hb8⟩
                  have HF8 := hidI (HF7.out.below hb8)
                  have HS8 := hidI hs1
                  have HB8 := hidI (bnext HB7.out hb8)
                  have m8 : w8.cell? ⟨w.heap.size, 0, none⟩ = some (.slice ca l.length ccap) := cell_of_block (blk HB8.out HX2.out) rfl
                  clear hs1 hb8
                  go_wp2_with fail
                  refine (seen_fl HF8.out (i := 1) rfl (by simp only; omega) (n := l.length) HTL.out).mono ?_
                  rintro e w9 ⟨ao2, cp2, ls2, rfl, hs2, HL2', hb9⟩
                  have HF9 := hidI (HF8.out.below hb9)
                  have HS9 := hidI (HS8.out.below_ap hb9)
                  have HT9 := hidI hs2
                  have HB9 := hidI (bnext HB8.out hb9)
                  have m9 : w9.cell? ⟨w.heap.size, 0, none⟩ = some (.slice ca l.length ccap) := cell_of_block (blk HB9.out HX2.out) rfl
                  clear hs2 hb9
                  go_wp2_with fail
                  go_loopw [23] (fun i wr => ∃ j : Nat, j ≤ l.length ∧ i = .int .i64 (j : Int) ∧ Hid (Below w9.heap.size w9 wr)) (fun i _ => ((l.length : Int) - intOf i).toNat)
                  case atStart => exact ⟨0, by omega, rfl, hidI (Below.refl _ _)⟩
                  case round =>
                    obtain ⟨j, hj, rfl, HR⟩ := hrel
                    have mr : wr.cell? ⟨w.heap.size, 0, none⟩ = some (.slice ca l.length ccap) := cell_of_block (blk (bnext HB9.out HR.out) HX2.out) rfl
                    by_cases hlt : j < l.length
                    · by_cases hct : (j : Int) = th ∧ dn = true
                      · obtain ⟨he, rfl⟩ := hct
                        have hq : ((j : Int) == th) = true := by simpa using he
                        clear he
                        go_wp2_with fail
                        exact ⟨⟨j + 1, by omega, by go_num, HR⟩, by simp [intOf]; omega⟩
                      · obtain ⟨t, ht1, ht2⟩ := step_same M th (k := j) (by rw [HTL.out]; exact hlt) (by
                          by_cases he : (j : Int) = th
                          · exact .inr (by rw [← HDN.out]; cases dn with
                            | false => rfl
                            | true => exact absurd ⟨he, rfl⟩ hct)
                          · exact .inl he)
                        have HT1 := hidI ht1
                        have HT2 := hidI ht2
                        have HFr := hidI (HF9.out.below HR.out)
                        obtain ⟨g1, c1, pa1, pc1, rfl, p0, p1, hp1⟩ := (HS9.out.below_ap HR.out).thread (HL1.out j t ht1)
                        obtain ⟨g2, c2, pa2, pc2, rfl, q0, q1, hp2⟩ := (HT9.out.below_ap HR.out).thread (HL2'.out j t ht2)
                        have hok := (HFr.out.each _ (List.mem_of_getElem? (show ([(⟨b, own7, (M.step th).2, k + 1⟩ : Mach), ⟨b', own', M, k⟩] : List Mach)[1]? = some ⟨b', own', M, k⟩ from rfl))).2.th t (List.mem_of_getElem? ht2)
                        have HLW : Hid (t.wait.length ≤ 64) := hidI hok.full
                        have HLO : Hid (t.out.length ≤ 2000000000) := hidI (by have := hok.out; simp only at this; omega)
                        clear hok
                        have HP1 := hidI hp1
                        have HP2 := hidI hp2
                        clear ht1 ht2 hp1 hp2
                        have HCT := hidI hct
                        clear hct
                        go_upto_region 35 with fail
                        go_cut [23, 182] from 170 to 182 (fun v23 v wx => v23 = .int .i64 (j : Int) ∧ v = .bool false ∧ wx = wr)
                        case first =>
                          cases dn with
                          | false =>
                            go_wp2_with fail
                            all_goals (
                              go_meet
                              exact ⟨by first | rfl | exact congrArg (Value.int .i64) (by omega), by first | rfl | simp, rfl⟩)
                          | true =>
                            have hne : ((j : Int) == th) = false := by
                              simp only [beq_eq_false_iff_ne, ne_eq]
                              exact fun h => HCT.out ⟨h, rfl⟩
                            go_wp2_with fail
                            all_goals (
                              go_meet
                              exact ⟨by first | rfl | exact congrArg (Value.int .i64) (by omega), by first | rfl | simp, rfl⟩)
                        case rest =>
                        obtain ⟨rfl, rfl, hw⟩ := hcut
                        obtain rfl := hw.symm
                        go_wp2_with fail
                        refine (at_f HFr.out (i := 0) rfl HT1.out).mono ?_
                        rintro e wA ⟨rfl, hw⟩
                        obtain rfl := hw.symm
                        go_wp2_with fail
                        refine (at_f HFr.out (i := 1) rfl HT2.out).mono ?_
                        rintro e wA ⟨rfl, hw⟩
                        obtain rfl := hw.symm
                        go_wp2_with fail
                        go_region_held3 (fun w' => w'.cell? ⟨g1, c1 + j * 2, none⟩ = some (.slice pa1 t.out.length pc1) ∧ w'.cell? ⟨g1, c1 + j * 2 + 1, none⟩ = some (.int .u8 t.fin) ∧ w'.cell? ⟨g2, c2 + j * 2, none⟩ = some (.slice pa2 t.out.length pc2) ∧ w'.cell? ⟨g2, c2 + j * 2 + 1, none⟩ = some (.int .u8 t.fin)) (first | exact ⟨cell_later HBF.out p0, cell_later HBF.out p1, cell_later HBF.out q0, cell_later HBF.out q1⟩ | exact ⟨cell_later HBE.out p0, cell_later HBE.out p1, cell_later HBE.out q0, cell_later HBE.out q1⟩ | exact ⟨cell_later HBD.out p0, cell_later HBD.out p1, cell_later HBD.out q0, cell_later HBD.out q1⟩ | exact ⟨cell_later HBC.out p0, cell_later HBC.out p1, cell_later HBC.out q0, cell_later HBC.out q1⟩ | exact ⟨cell_later (Below.refl wr.heap.size wr).drew p0, cell_later (Below.refl wr.heap.size wr).drew p1, cell_later (Below.refl wr.heap.size wr).drew q0, cell_later (Below.refl wr.heap.size wr).drew q1⟩) (first | (go_at_call 25; refine (waiting_f (HFr.out.below HBC.out) (i := 1) rfl HT2.out).mono ?_; rintro e wD ⟨gD, rfl, hoD, hbD⟩; have HOD := hidI (Rd.of_own hoD); have HOC2 := hidI (Rd.below HOC.out hbD); have HBD := hidI (bnext HBC.out hbD); clear hoD hbD; dsimp only) | (go_at_call 25; refine (waiting_f (HFr.out.below (Below.refl wr.heap.size wr).drew) (i := 0) rfl HT1.out).mono ?_; rintro e wC ⟨gC, rfl, hoC, hbC⟩; have HOC := hidI (Rd.of_own hoC); have HBC := hidI ((Below.refl wr.heap.size wr).drew.trans hbC); clear hoC hbC; dsimp only) | (go_at_call 24; refine (sameCells_eq HOC2.out HOD.out rfl rfl (by have := HLW.out; omega)).mono ?_; rintro e wE ⟨rfl, hbE⟩; have HBE := hidI (bnext HBD.out hbE); clear hbE; dsimp only) | (go_at_call 19; refine (sameSeen_true (Rd.below HP1.out HBE.out) (Rd.below HP2.out HBE.out) (by have := HLO.out; omega) t.fin).mono ?_; rintro e wF ⟨rfl, hbF⟩; have HBF := hidI (bnext HBE.out hbF); clear hbF; dsimp only))
                        go_wp2_with fail
                        go_loopw [28] (fun i wq => ∃ r : Nat, r ≤ 8 ∧ i = .int .i64 (r : Int) ∧ wq = wF) (fun i _ => (8 - intOf i).toNat)
                        case atStart => exact ⟨0, by omega, rfl, rfl⟩
                        case round =>
                          obtain ⟨r, hr, rfl, hw⟩ := hrel
                          obtain rfl := hw.symm
                          by_cases hr8 : r < 8
                          · go_wp2_with fail
                            refine (register_f (HFr.out.below HBF.out) (i := 0) rfl HT1.out hr8).mono ?_
                            rintro e wA ⟨rfl, hw⟩
                            obtain rfl := hw.symm
                            go_wp2_with fail
                            refine (register_f (HFr.out.below HBF.out) (i := 1) rfl HT2.out hr8).mono ?_
                            rintro e wA ⟨rfl, hw⟩
                            obtain rfl := hw.symm
                            go_wp2_with fail
                            exact ⟨⟨r + 1, by omega, by go_num, by trivial⟩, by simp [intOf]; omega⟩
                          · have hr9 : ¬ ((r : Int) < 8) := by omega
                            go_wp2_with fail
                            exact ⟨⟨j + 1, by omega, by go_num, hidI (bnext HR.out HBF.out)⟩, by simp [intOf]; omega⟩
                    · obtain rfl : j = l.length := by omega
                      go_wp2_with fail
                      refine (lives_any _).mono ?_
                      rintro e wz ⟨rfl, hbz⟩
                      have HBZ := hidI (bnext (bnext HB9.out HR.out) hbz)
                      clear hbz
                      go_wp2_with fail
                      go_ret
                      exact ⟨rfl, bnext HB2.out HBZ.out⟩
    · refine (new_no HC2.out HCC2.out mem (by have := HL2.out; omega) (by have := HL2.out; omega) hk).mono ?_
      rintro e w3 ⟨rfl, hb⟩
      have HB3 := hidI (bnext HB2.out hb)
      have hne : (checkM mem l cs == 0) = false := by simpa using hk
      clear hb m0 m1 m2
      go_wp2_with fail
      refine (lives_any _).mono ?_
      rintro e w4 ⟨rfl, hb⟩
      have HB4 := hidI (bnext HB3.out hb)
      clear hb
      go_wp2_with fail
      go_ret
      exact ⟨rfl, HB4.out⟩
end Go.Proofs.Ytnechkhgceeejaa

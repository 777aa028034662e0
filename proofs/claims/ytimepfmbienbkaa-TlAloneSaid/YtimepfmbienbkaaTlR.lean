/- The walk of TlGoes. -/
import Derived.Test.YtimepfmbienbkaaTlP
namespace Go.Proofs.Ytimepfmbienbkaa
open Go.RowKit

theorem txInfo : (Try.prog.info? 37).map (fun i => (i.zero, i.size, i.bytes)) = some (some (.agg #[.int .i64 0, .int .u8 0, .int .i64 0, .int .i64 0]), 4, 32) := by kernel_rfl
theorem one_tx (x : Tx) : ∀ u ∈ encTx x, u.oneCell' = true := by
  intro u hu
  simp [encTx] at hu
  rcases hu with rfl | rfl | rfl | rfl <;> rfl
theorem one_txs (l : List Tx) : ∀ u ∈ l.flatMap encTx, u.oneCell' = true := by
  intro u hu
  obtain ⟨x, _, hx⟩ := List.mem_flatMap.1 hu
  exact one_tx x u hx

/-- an empty literal slice is a row of its own -/
theorem own_empty (w : World) (e : TypeId) (size : Nat) : (w.alloc (.cells #[] e)).ownsRow w.heap.size e size (.slice (some ⟨w.heap.size, 0, none⟩) 0 0) 0 [] :=
  own_of_full (by rw [block_new]) (Nat.le_refl _) (by unfold maxLen; omega) (by simp)

theorem rdt_cap {α : Type} {enc : α → List Value} {w : World} {sz : Nat} {ao : Option Addr} {n cap : Nat} {l : List α} (h : RdT enc w sz (.slice ao n cap) l) : n ≤ cap := by
  obtain ⟨_, ao', cap', hv, h2, _⟩ := h
  simp only [Value.slice.injEq] at hv
  obtain ⟨rfl, rfl, rfl⟩ := hv
  exact h2
theorem rdt_take {α : Type} {enc : α → List Value} {w : World} {sz : Nat} {ao : Option Addr} {n cap : Nat} {l r : List α} (h : RdT enc w sz (.slice ao n cap) (l ++ r)) (he : ∀ a, (enc a).length = sz := by intro a; rfl) : RdT enc w sz (.slice ao l.length cap) l := by
  obtain ⟨_, ao', cap', hv, h2, h3⟩ := h
  simp only [Value.slice.injEq] at hv
  obtain ⟨rfl, rfl, rfl⟩ := hv
  refine ⟨flat_len he l, ao, cap, rfl, by simp at h2; omega, fun hl => ?_⟩
  obtain ⟨b, off, e, hb, hc⟩ := h3 (by simp; omega)
  refine ⟨b, off, e, hb, fun j u hj => hc j u ?_⟩
  rw [List.flatMap_append, List.getElem?_append_left (List.getElem?_eq_some_iff.1 hj).1]
  exact hj

theorem refused_both {words threads : Int} {n k : Nat} {e : Int} (h : RunRefused words threads n = some e) : ∃ f, RunRefused words threads (n + k) = some f ∧ f = e ∧ e ≠ 0 := by
  unfold RunRefused at *
  split at h
  · rename_i hc
    cases h
    exact ⟨1, by rw [if_pos hc], rfl, by decide⟩
  · rename_i hc
    split at h
    · rename_i hd
      cases h
      exact ⟨3, by rw [if_neg hc, if_pos (by omega)], rfl, by decide⟩
    · cases h
theorem refused_more {words threads : Int} {n k : Nat} {e : Int} (h : RunRefused words threads n = none) (h2 : RunRefused words threads (n + k) = some e) : e = 3 := by
  unfold RunRefused at *
  split at h
  · cases h
  · rename_i hc
    rw [if_neg hc] at h2
    split at h2
    · cases h2; rfl
    · cases h2
theorem refused_none {words threads : Int} {n : Nat} (h : RunRefused words threads n = none) : ∃ a b : Nat, words = a ∧ threads = b ∧ a ≤ 65536 ∧ b ≤ 4 ∧ n ≤ 65536 := by
  unfold RunRefused at h
  split at h
  · cases h
  · split at h
    · cases h
    · exact ⟨words.toNat, threads.toNat, by omega, by omega, by omega, by omega, by omega⟩

set_option maxRecDepth 100000 in
set_option maxHeartbeats 2000000 in
theorem goes_any {w : World} {ao bo : Option Addr} {ca cb : Nat} {l more : List Tx} (hl : RdT encTx w 4 (.slice ao l.length ca) l) (hm : RdT encTx w 4 (.slice bo more.length cb) more) (words threads : Int) (n1 : l.length < 2 ^ 62) (n2 : more.length < 2 ^ 62) :
    Calls Try.prog 4 #[.int .i64 words, .int .i64 threads, .slice ao l.length ca, .slice bo more.length cb] w fun e w' => e = .returned (.bool true) ∧ Below w.heap.size w w' := by
  have HL := hidI hl
  have HM := hidI hm
  clear hl hm
  go_enter Try.func4, Try.ntmps4
  go_wp2_with fail
  refine (beyond2 l.length more.length (block_new w _) n1 n2).mono ?_
  rintro e w1 ⟨rfl, b1⟩
  have HB1 := hidI (bnextA (Below.refl _ w) b1)
  clear b1
  by_cases hbig : 262144 < l.length + more.length
  · rw [decide_eq_true hbig]
    go_wp2_with fail
    go_ret
    exact ⟨rfl, HB1.out⟩
  rw [decide_eq_false hbig]
  have HN := hidI hbig
  clear hbig n1 n2
  have HL1 := hidI (Rd.below HL.out HB1.out)
  cases hr : RunRefused words threads l.length with
  | some e =>
    obtain ⟨f, hf, rfl, hne⟩ := refused_both (k := more.length) hr
    have HR := hidI hr
    have HF := hidI hf
    have hb : (f != 0) = true := by simpa using hne
    have hb2 : (f == f) = true := by simp
    clear hr hf hne
    go_wp2_with fail
    refine (run_refused rfl words threads HR.out).mono ?_
    rintro e w2 ⟨rfl, b2⟩
    have HB2 := hidI (bnext HB1.out b2)
    clear b2
    -- WALK (written by mkgoes.py)
    have HM1 := hidI (Rd.below HM.out HB2.out)
    have HNMp := hidI (Nat.le_refl more.length)
    obtain ⟨i0, hi, hz0, hz1, hz2⟩ := info_parts txInfo
    have HLp := hidI (Rd.below HL.out HB2.out)
    have HMp := hidI (HM1.out)
    go_wp2_with (at_builtin; refine wpList_append_rd _ rfl _ _ 22 rfl w2.heap.size 37 i0 _ 4 32 Try.underlying22 hi hz0 hz1 hz2 rfl (by decide) (.slice (some ⟨w2.heap.size, 0, none⟩) 0 0) 0 [] (by simp [Act.eval]) (own_empty w2 _ _) (.slice ao l.length ca) l.length (l.flatMap encTx) (by simp [Act.eval]) ?c1 ?c2 ?c3 ?c4 ?c5 ?_)
    case c1 => exact Rd.alloc HLp.out _
    case c2 => exact one_txs _
    case c3 => have := HN.out; unfold maxLen; omega
    case c4 => have := HN.out; omega
    case c5 => simp
    intro aop1 cpp1 wpa hown hfrom hgrown
    have HBap := hidI (((Chg.refl (fun k => k = w2.heap.size) w2).alloc (.cells #[] 37)).grown hgrown (fun k hk => .inl (by simp only [Value.ownBlock, Option.some.injEq] at hk; exact hk.symm)) |>.to_below (Nat.le_refl _) (fun k hk => by rw [hk]; exact Nat.le_refl _))
    have HOap : Hid (wpa.ownsRow w2.heap.size 37 4 (.slice aop1 l.length cpp1) l.length (l.flatMap encTx)) := hidI (by simpa only [Nat.zero_add, List.nil_append] using hown)
    have HMap := hidI (Rd.below HMp.out HBap.out)
    clear hown hfrom hgrown
    go_wp2_with (at_builtin; refine wpList_append_rd _ rfl _ _ 22 rfl w2.heap.size 37 i0 _ 4 32 Try.underlying22 hi hz0 hz1 hz2 rfl (by decide) (.slice aop1 l.length cpp1) l.length (l.flatMap encTx) (by simp [Act.eval]) HOap.out (.slice bo more.length cb) more.length (more.flatMap encTx) (by simp [Act.eval]) ?c1 ?c2 ?c3 ?c4 ?c5 ?_)
    case c1 => exact HMap.out
    case c2 => exact one_txs _
    case c3 => have := HN.out; have := HNMp.out; unfold maxLen; omega
    case c4 => have := HN.out; have := HNMp.out; omega
    case c5 => have := HBap.out.size; omega
    intro aop2 cpp2 wpb hown hfrom hgrown
    have HBbp := hidI (((Chg.refl (fun k => w2.heap.size ≤ k) wpa)).grown hgrown (fun k hk => .inl (ownLt HOap.out hk).1) |>.to_below HBap.out.size (fun k hk => hk))
    have HXp : Hid (RdT encTx wpb 4 (.slice aop2 (l ++ more).length cpp2) (l ++ more)) := hidI (by
      have := Rd.of_own hown
      unfold RdT
      rw [List.flatMap_append, List.length_append]
      simpa only [Nat.zero_add, List.nil_append] using this)
    have HBp := hidI ((HB2.out.trans (HBap.out.mono HB2.out.size)).trans (HBbp.out.mono HB2.out.size))
    clear hown hfrom hgrown hi hz0 hz1 hz2
    go_wp2_with fail
    refine (run_refused (l := l ++ more) (ao := aop2) (cap := cpp2) (by rw [List.length_append]) words threads (by rw [List.length_append]; exact HF.out)).mono ?_
    rintro e w3 ⟨rfl, b3⟩
    have HB3 := hidI (bnext HBp.out b3)
    clear b3
    go_wp2_with fail
    refine (lives_any _).mono ?_
    rintro e w4 ⟨rfl, b4⟩
    have HB4 := hidI (bnext HB3.out b4)
    clear b4
    go_wp2_with fail
    go_ret
    exact ⟨rfl, HB4.out⟩
  | none =>
    obtain ⟨a, b, rfl, rfl, ha, hb, hll⟩ := refused_none hr
    obtain ⟨E1, hE1⟩ : ∃ E, (runT a b l).evs = E := ⟨_, rfl⟩
    obtain ⟨r, hE2⟩ : ∃ r, (runT a b (l ++ more)).evs = E1 ++ r := by rw [← hE1]; exact run_more a b l more
    obtain ⟨E2, hq⟩ : ∃ E2, E1 ++ r = E2 := ⟨_, rfl⟩
    rw [hq] at hE2
    have HQ := hidI hq
    clear hq
    obtain ⟨M2, hM2⟩ : ∃ M, (runT a b (l ++ more)).mem = M := ⟨_, rfl⟩
    have hok2 := TOk.run a b (l ++ more)
    rw [run_some] at hE2 hM2
    have hE3 := hE2
    have hM3 := hM2
    rw [← run_some] at hE2 hM2
    have hev2 := hok2.evs
    rw [hE2] at hev2
    have hz := hok2.zero
    have hml := hok2.mem
    rw [hM2] at hz hml
    have HE1 := hidI hE1
    have HE2 := hidI hE2
    have HE3 := hidI hE3
    have HM2 := hidI hM2
    have HM3 := hidI hM3
    have HEV := hidI hev2
    have HZ := hidI hz
    have HML := hidI hml
    have HR := hidI hr
    have HA := hidI ha
    have HBB := hidI hb
    have HLL := hidI hll
    clear hE1 hE2 hE3 hM2 hM3 hev2 hz hml hr ha hb hll hok2
    go_wp2_with fail
    refine (run_ok HL1.out a b HA.out HBB.out HLL.out E1 _ HE1.out rfl).mono ?_
    rintro e w2 ⟨eo1, ec1, g1, rfl, b2, he1, -, -⟩
    have HB2 := hidI (bnext HB1.out b2)
    have HV1 := hidI he1
    clear b2 he1
    have HM1 := hidI (Rd.below HM.out HB2.out)
    have HNMp := hidI (Nat.le_refl more.length)
    obtain ⟨i0, hi, hz0, hz1, hz2⟩ := info_parts txInfo
    have HLp := hidI (Rd.below HL.out HB2.out)
    have HMp := hidI (HM1.out)
    go_wp2_with (at_builtin; refine wpList_append_rd _ rfl _ _ 22 rfl w2.heap.size 37 i0 _ 4 32 Try.underlying22 hi hz0 hz1 hz2 rfl (by decide) (.slice (some ⟨w2.heap.size, 0, none⟩) 0 0) 0 [] (by simp [Act.eval]) (own_empty w2 _ _) (.slice ao l.length ca) l.length (l.flatMap encTx) (by simp [Act.eval]) ?c1 ?c2 ?c3 ?c4 ?c5 ?_)
    case c1 => exact Rd.alloc HLp.out _
    case c2 => exact one_txs _
    case c3 => have := HN.out; unfold maxLen; omega
    case c4 => have := HN.out; omega
    case c5 => simp
    intro aop1 cpp1 wpa hown hfrom hgrown
    have HBap := hidI (((Chg.refl (fun k => k = w2.heap.size) w2).alloc (.cells #[] 37)).grown hgrown (fun k hk => .inl (by simp only [Value.ownBlock, Option.some.injEq] at hk; exact hk.symm)) |>.to_below (Nat.le_refl _) (fun k hk => by rw [hk]; exact Nat.le_refl _))
    have HOap : Hid (wpa.ownsRow w2.heap.size 37 4 (.slice aop1 l.length cpp1) l.length (l.flatMap encTx)) := hidI (by simpa only [Nat.zero_add, List.nil_append] using hown)
    have HMap := hidI (Rd.below HMp.out HBap.out)
    clear hown hfrom hgrown
    go_wp2_with (at_builtin; refine wpList_append_rd _ rfl _ _ 22 rfl w2.heap.size 37 i0 _ 4 32 Try.underlying22 hi hz0 hz1 hz2 rfl (by decide) (.slice aop1 l.length cpp1) l.length (l.flatMap encTx) (by simp [Act.eval]) HOap.out (.slice bo more.length cb) more.length (more.flatMap encTx) (by simp [Act.eval]) ?c1 ?c2 ?c3 ?c4 ?c5 ?_)
    case c1 => exact HMap.out
    case c2 => exact one_txs _
    case c3 => have := HN.out; have := HNMp.out; unfold maxLen; omega
    case c4 => have := HN.out; have := HNMp.out; omega
    case c5 => have := HBap.out.size; omega
    intro aop2 cpp2 wpb hown hfrom hgrown
    have HBbp := hidI (((Chg.refl (fun k => w2.heap.size ≤ k) wpa)).grown hgrown (fun k hk => .inl (ownLt HOap.out hk).1) |>.to_below HBap.out.size (fun k hk => hk))
    have HXp : Hid (RdT encTx wpb 4 (.slice aop2 (l ++ more).length cpp2) (l ++ more)) := hidI (by
      have := Rd.of_own hown
      unfold RdT
      rw [List.flatMap_append, List.length_append]
      simpa only [Nat.zero_add, List.nil_append] using this)
    have HBp := hidI ((HB2.out.trans (HBap.out.mono HB2.out.size)).trans (HBbp.out.mono HB2.out.size))
    clear hown hfrom hgrown hi hz0 hz1 hz2
    have HV2 := hidI (Rd.below HV1.out ((HBap.out).trans HBbp.out))
    cases hr2 : RunRefused a b (l.length + more.length) with
    | some f =>
      have hf3 := refused_more HR.out hr2
      subst hf3
      have HF := hidI hr2
      clear hr2
      go_wp2_with fail
      refine (run_refused (l := l ++ more) (ao := aop2) (cap := cpp2) (by rw [List.length_append]) a b (by rw [List.length_append]; exact HF.out)).mono ?_
      rintro e w3 ⟨rfl, b3⟩
      have HB3 := hidI (bnext HBp.out b3)
      clear b3
      go_wp2_with fail
      refine (lives_any _).mono ?_
      rintro e w4 ⟨rfl, b4⟩
      have HB4 := hidI (bnext HB3.out b4)
      clear b4
      go_wp2_with fail
      go_ret
      exact ⟨rfl, HB4.out⟩
    | none =>
      have hl2 : l.length + more.length ≤ 65536 := by
        obtain ⟨a', b', q1, q2, q3, q4, q5⟩ := refused_none hr2
        exact q5
      have HL2 := hidI hl2
      clear hr2 hl2
      go_wp2_with fail
      have HXq : Hid (RdT encTx wpb 4 (.slice aop2 (l.length + more.length) cpp2) (l ++ more)) := hidI (by have := HXp.out; rwa [List.length_append] at this)
      have HLq := hidI (show (l ++ more).length ≤ 65536 from by rw [List.length_append]; exact HL2.out)
      refine (run_ok (w := wpb) (ao := aop2) (l := l ++ more) (n := l.length + more.length) (cap := cpp2) HXq.out a b HA.out HBB.out HLq.out E2 M2 HE2.out HM2.out).mono ?_
      rintro e w3 ⟨eo2, ec2, g2, rfl, b3, he2, hmem2, -⟩
      have HB3 := hidI (bnext HBp.out b3)
      have HV3 := hidI (Rd.below HV2.out b3)
      have HW3 := hidI he2
      have HG3 := hidI hmem2
      have hpre : RdT encEv w3 4 (.slice eo2 E1.length ec2) E1 := by
        have h := he2
        rw [← HQ.out] at h
        exact rdt_take h
      have hcap := rdt_cap he2
      have hl1 : E1.length ≤ E2.length := by rw [← HQ.out]; simp
      have hl2 : E1.length ≤ ec2 := Nat.le_trans hl1 hcap
      have hd1 : decide (E2.length < E1.length) = false := decide_eq_false (by omega)
      have HP3 := hidI hpre
      have HQL := hidI hl1
      have c0 : w3.cell? ⟨g2, 0, none⟩ = some (.int .i64 0) := cell_of_block hmem2 (by
        have := HZ.out
        rw [List.getElem?_toArray, List.getElem?_map, this]; rfl)
      have e1 : IntKind.i64.wrap ((a : Int) + 1) = a + 1 := IntWalk.i64_in _ (by have := HA.out; omega)
      clear b3 he2 hmem2 hpre hcap
      go_wp2_with fail
      refine (sameEvents_true HV3.out HP3.out (by have := HEV.out; have := HLq.out; have := HQL.out; omega)).mono ?_
      rintro e w4 ⟨rfl, b4⟩
      have HB4 := hidI (bnext HB3.out b4)
      have HW4 := hidI (Rd.below HW3.out b4)
      have HG4 := hidI (blk b4 HG3.out)
      have c0 : w4.cell? ⟨g2, 0, none⟩ = some (.int .i64 0) := (b4.cell (lt_of_block HG3.out)).trans c0
      have HM4 := hidI (Rd.below HM.out HB4.out)
      clear b4
      go_wp2_with fail
      clear c0 e1 hl1 hl2 hd1
      obtain ⟨i0, hi, hz0, hz1, hz2⟩ := info_parts txInfo
      have HI := hidI hi
      have HZ0 := hidI hz0
      have HZ1 := hidI hz1
      have HZ2 := hidI hz2
      clear hi hz0 hz1 hz2
      go_loopw [16, 15] (fun i sv w' => ∃ (k n : Nat) (so : Option Addr) (sp : Nat), k ≤ more.length ∧ i = .int .i64 (k : Int) ∧ sv = .slice so n sp ∧ Hid (n = ((more.take k).filter (someTx b)).length) ∧ Hid (w'.ownsRow w4.heap.size 37 4 (.slice so n sp) n (((more.take k).filter (someTx b)).flatMap encTx)) ∧ Hid (Below w4.heap.size w4 w')) (fun i _ _ => ((more.length : Int) - intOf i).toNat)
      case atStart => exact ⟨0, 0, none, 0, by omega, rfl, rfl, hidI rfl, hidI (World.ownsRow_nil _ _ _ _), hidI (Below.refl _ _)⟩
      case round =>
        obtain ⟨k, n, so, sp, hk, rfl, rfl, HNK, HO, HBK⟩ := hrel
        by_cases hlt : k < more.length
        · obtain ⟨x, hx⟩ := some_at hlt
          obtain ⟨g, off, rfl, hg, hc⟩ := RdT.at encTx_len HM4.out hx
          have d0 : wr.cell? ⟨g, off + k * 4, none⟩ = some (.int .i64 x.th) := (HBK.out.cell hg).trans (hc 0 _ rfl)
          have d1 : wr.cell? ⟨g, off + k * 4 + 1, none⟩ = some (.int .u8 x.kind) := (HBK.out.cell hg).trans (hc 1 _ rfl)
          have d2 : wr.cell? ⟨g, off + k * 4 + 2, none⟩ = some (.int .i64 x.at_) := (HBK.out.cell hg).trans (hc 2 _ rfl)
          have d3 : wr.cell? ⟨g, off + k * 4 + 3, none⟩ = some (.int .i64 x.v) := (HBK.out.cell hg).trans (hc 3 _ rfl)
          have hw1 : IntKind.i64.wrap ((k : Int) + 1) = k + 1 := IntWalk.i64_in _ (by have := HLq.out; rw [List.length_append] at this; omega)
          have HT := hidI (take_snoc hx)
          have HNB := hidI (show n ≤ 65536 from by
            have := HLq.out; rw [List.length_append] at this
            have h2 := List.length_filter_le (someTx b) (more.take k)
            rw [List.length_take] at h2
            have := HNK.out; omega)
          clear hx hc hg
          cases hs : someTx b x with
          | true =>
            have hs' : 0 ≤ x.th ∧ x.th < b ∧ 1 ≤ x.kind ∧ x.kind ≤ 5 := by simpa [someTx] using hs
            obtain ⟨s1, s2, s3, s4⟩ := hs'
            have q1 : decide (0 ≤ x.th) = true := decide_eq_true s1
            have q2 : decide (x.th < (b : Int)) = true := decide_eq_true s2
            have q3 : decide (1 ≤ x.kind) = true := decide_eq_true s3
            have q4 : decide (x.kind ≤ 5) = true := decide_eq_true s4
            have HF := hidI (show (more.take (k + 1)).filter (someTx b) = (more.take k).filter (someTx b) ++ [x] from by rw [HT.out, List.filter_append]; simp [hs])
            have hi := HI.out
            have hz0 := HZ0.out
            have hz1 := HZ1.out
            have hz2 := HZ2.out
            clear hs
            go_wp2_with (at_builtin; refine wpList_append_d _ rfl _ _ 22 rfl w4.heap.size 37 i0 _ 4 32 Try.underlying22 hi hz0 hz1 hz2 rfl (by decide) (.slice so n sp) n _ (by simp [Act.eval]) (ownsRow_chg HO.out (((Chg.refl (fun _ => False) wr).alloc _).alloc _) (fun _ _ => id)) ⟨wr.heap.size + 1, 0, none⟩ 1 1 (encTx x) (by simp [Act.eval]) rfl ?c1 ?c2 ?c3 ?c4 ?c5 ?_)
            case c1 => exact news_at (block_new2 _ _ _)
            case c2 => exact one_tx x
            case c3 => have := HNB.out; unfold maxLen; omega
            case c4 => have := HNB.out; omega
            case c5 => have := HBK.out.size; simp; omega
            intro ao5 cp5 w5 hown hfrom hgrown
            have HB5 := hidI ((((((Chg.refl (fun k => w4.heap.size ≤ k) wr).alloc _).alloc _).grown hgrown (fun k hk => .inl (ownLt HO.out hk).1)).to_below HBK.out.size (fun k hk => hk)))
            have HO5 := hidI hown
            clear hown hfrom hgrown hi hz0 hz1 hz2
            go_wp2_with fail
            refine ⟨⟨k + 1, n + 1, ao5, cp5, by omega, by go_num, rfl, hidI (by rw [HF.out, List.length_append, ← HNK.out]; rfl), hidI (by rw [HF.out, flat_snoc]; exact HO5.out), hidI (HBK.out.trans HB5.out)⟩, by simp [intOf]; omega⟩
          | false =>
            have HF := hidI (show (more.take (k + 1)).filter (someTx b) = (more.take k).filter (someTx b) from by rw [HT.out, List.filter_append]; simp [hs])
            have hno : ¬ (0 ≤ x.th ∧ x.th < b ∧ 1 ≤ x.kind ∧ x.kind ≤ 5) := by simpa [someTx] using hs
            clear hs
            by_cases s1 : 0 ≤ x.th
            · have q1 : decide (0 ≤ x.th) = true := decide_eq_true s1
              by_cases s2 : x.th < b
              · have q2 : decide (x.th < (b : Int)) = true := decide_eq_true s2
                by_cases s3 : 1 ≤ x.kind
                · have q3 : decide (1 ≤ x.kind) = true := decide_eq_true s3
                  have q4 : decide (x.kind ≤ 5) = false := decide_eq_false (fun h => hno ⟨s1, s2, s3, h⟩)
                  clear hno
                  go_wp2_with fail
                  refine ⟨⟨k + 1, n, so, sp, by omega, by go_num, rfl, hidI (by rw [HF.out]; exact HNK.out), hidI (by rw [HF.out]; exact ownsRow_chg HO.out ((Chg.refl (fun _ => False) wr).alloc _) (fun _ _ => id)), hidI (HBK.out.alloc HBK.out.size _)⟩, by simp [intOf]; omega⟩
                · have q3 : decide (1 ≤ x.kind) = false := decide_eq_false s3
                  clear hno
                  go_wp2_with fail
                  refine ⟨⟨k + 1, n, so, sp, by omega, by go_num, rfl, hidI (by rw [HF.out]; exact HNK.out), hidI (by rw [HF.out]; exact ownsRow_chg HO.out ((Chg.refl (fun _ => False) wr).alloc _) (fun _ _ => id)), hidI (HBK.out.alloc HBK.out.size _)⟩, by simp [intOf]; omega⟩
              · have q2 : decide (x.th < (b : Int)) = false := decide_eq_false s2
                clear hno
                go_wp2_with fail
                refine ⟨⟨k + 1, n, so, sp, by omega, by go_num, rfl, hidI (by rw [HF.out]; exact HNK.out), hidI (by rw [HF.out]; exact ownsRow_chg HO.out ((Chg.refl (fun _ => False) wr).alloc _) (fun _ _ => id)), hidI (HBK.out.alloc HBK.out.size _)⟩, by simp [intOf]; omega⟩
            · have q1 : decide (0 ≤ x.th) = false := decide_eq_false s1
              clear hno
              go_wp2_with fail
              refine ⟨⟨k + 1, n, so, sp, by omega, by go_num, rfl, hidI (by rw [HF.out]; exact HNK.out), hidI (by rw [HF.out]; exact ownsRow_chg HO.out ((Chg.refl (fun _ => False) wr).alloc _) (fun _ _ => id)), hidI (HBK.out.alloc HBK.out.size _)⟩, by simp [intOf]; omega⟩
        · obtain rfl : k = more.length := by omega
          obtain ⟨wz, rfl⟩ : ∃ x, x = wr := ⟨_, rfl⟩
          have hnl := HNK.out
          have hos := HO.out
          rw [List.take_length] at hnl hos
          have hnm : (more.filter (someTx b)).length ≤ more.length := List.length_filter_le _ _
          have he3 := HE3.out
          have hm3 := HM3.out
          obtain ⟨F, hF⟩ : ∃ F, more.filter (someTx b) = F := ⟨_, rfl⟩
          rw [hF] at hnl hos hnm he3 hm3
          subst hnl
          have HS := hidI (Rd.of_own hos)
          have HNMs := hidI hnm
          have HF3 := hidI he3
          have HG5 := hidI hm3
          clear hos hnm he3 hm3 hF HNK HE3 HM3
          have HBz := hidI (bnext HB4.out HBK.out)
          have HW5 := hidI (Rd.below HW4.out HBK.out)
          have HG6 := hidI (blk HBK.out HG4.out)
          obtain ⟨i0, hi, hz0, hz1, hz2⟩ := info_parts txInfo
          have HLs := hidI (Rd.below HL.out HBz.out)
          have HMs := hidI (HS.out)
          go_wp2_with (at_builtin; refine wpList_append_rd _ rfl _ _ 22 rfl wz.heap.size 37 i0 _ 4 32 Try.underlying22 hi hz0 hz1 hz2 rfl (by decide) (.slice (some ⟨wz.heap.size, 0, none⟩) 0 0) 0 [] (by simp [Act.eval]) (own_empty wz _ _) (.slice ao l.length ca) l.length (l.flatMap encTx) (by simp [Act.eval]) ?c1 ?c2 ?c3 ?c4 ?c5 ?_)
          case c1 => exact Rd.alloc HLs.out _
          case c2 => exact one_txs _
          case c3 => have := HN.out; unfold maxLen; omega
          case c4 => have := HN.out; omega
          case c5 => simp
          intro aos1 cps1 wsa hown hfrom hgrown
          have HBas := hidI (((Chg.refl (fun k => k = wz.heap.size) wz).alloc (.cells #[] 37)).grown hgrown (fun k hk => .inl (by simp only [Value.ownBlock, Option.some.injEq] at hk; exact hk.symm)) |>.to_below (Nat.le_refl _) (fun k hk => by rw [hk]; exact Nat.le_refl _))
          have HOas : Hid (wsa.ownsRow wz.heap.size 37 4 (.slice aos1 l.length cps1) l.length (l.flatMap encTx)) := hidI (by simpa only [Nat.zero_add, List.nil_append] using hown)
          have HMas := hidI (Rd.below HMs.out HBas.out)
          clear hown hfrom hgrown
          go_wp2_with (at_builtin; refine wpList_append_rd _ rfl _ _ 22 rfl wz.heap.size 37 i0 _ 4 32 Try.underlying22 hi hz0 hz1 hz2 rfl (by decide) (.slice aos1 l.length cps1) l.length (l.flatMap encTx) (by simp [Act.eval]) HOas.out (.slice so F.length sp) F.length (F.flatMap encTx) (by simp [Act.eval]) ?c1 ?c2 ?c3 ?c4 ?c5 ?_)
          case c1 => exact HMas.out
          case c2 => exact one_txs _
          case c3 => have := HN.out; have := HNMs.out; unfold maxLen; omega
          case c4 => have := HN.out; have := HNMs.out; omega
          case c5 => have := HBas.out.size; omega
          intro aos2 cps2 wsb hown hfrom hgrown
          have HBbs := hidI (((Chg.refl (fun k => wz.heap.size ≤ k) wsa)).grown hgrown (fun k hk => .inl (ownLt HOas.out hk).1) |>.to_below HBas.out.size (fun k hk => hk))
          have HXs : Hid (RdT encTx wsb 4 (.slice aos2 (l ++ F).length cps2) (l ++ F)) := hidI (by
            have := Rd.of_own hown
            unfold RdT
            rw [List.flatMap_append, List.length_append]
            simpa only [Nat.zero_add, List.nil_append] using this)
          have HBs := hidI ((HBz.out.trans (HBas.out.mono HBz.out.size)).trans (HBbs.out.mono HBz.out.size))
          clear hown hfrom hgrown hi hz0 hz1 hz2
          have HXq2 : Hid (RdT encTx wsb 4 (.slice aos2 (l.length + F.length) cps2) (l ++ F)) := hidI (by have := HXs.out; rwa [List.length_append] at this)
          have HLq2 := hidI (show (l ++ F).length ≤ 65536 from by have := HLq.out; have := HNMs.out; rw [List.length_append] at *; omega)
          have HBW := hidI ((HBas.out).trans HBbs.out)
          go_wp2_with fail
          refine (run_ok (w := wsb) (ao := aos2) (l := l ++ F) (n := l.length + F.length) (cap := cps2) HXq2.out a b HA.out HBB.out HLq2.out E2 M2 HF3.out HG5.out).mono ?_
          rintro e w6 ⟨eo3, ec3, g3, rfl, b6, he3, hmem3, -⟩
          have HB6 := hidI (bnext HBs.out b6)
          have HV6 := hidI (Rd.below (Rd.below HW5.out HBW.out) b6)
          have HW6 := hidI he3
          have HG7 := hidI (blk b6 (blk HBW.out HG6.out))
          have HG8 := hidI hmem3
          clear b6 he3 hmem3
          go_wp2_with fail
          refine (sameEvents_true (l := E2) (ao := eo2) (bo := eo3) (ca := ec2) (cb := ec3) HV6.out HW6.out (by have := HEV.out; have := HLq.out; omega)).mono ?_
          rintro e w7 ⟨rfl, b7⟩
          have HB7 := hidI (bnext HB6.out b7)
          have HG9 := hidI (blk b7 HG7.out)
          have HG10 := hidI (blk b7 HG8.out)
          have HML2 := hidI (show a + 1 = M2.length from HML.out.symm)
          clear b7
          go_wp2_with fail
          have s1 := rdt_mem HG9.out HML2.out
          have s2 := rdt_mem HG10.out HML2.out
          rw [HML2.out] at s1 s2 ⊢
          refine (sameWides_true (l := M2) s1 s2 (by have := HML2.out; have := HA.out; omega)).mono ?_
          rintro e w8 ⟨rfl, b8⟩
          have HB8 := hidI (bnext HB7.out b8)
          clear b8 s1 s2
          go_wp2_with fail
          refine (lives_any _).mono ?_
          rintro e w9 ⟨rfl, b9⟩
          have HB9 := hidI (bnext HB8.out b9)
          clear b9
          go_wp2_with fail
          go_ret
          exact ⟨rfl, HB9.out⟩

end Go.Proofs.Ytimepfmbienbkaa

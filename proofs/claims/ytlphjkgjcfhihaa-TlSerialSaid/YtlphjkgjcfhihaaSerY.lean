/- The walk of TlSerial. (Written by mksery.py.) -/
import Derived.Test.YtlphjkgjcfhihaaSerV
import Derived.Test.YtlphjkgjcfhihaaMTlR
import Derived.Test.YtlphjkgjcfhihaaHistRD
namespace Go.Proofs.Ytlphjkgjcfhihaa
open Go.RowKit
set_option linter.unusedVariables false
set_option linter.unusedSimpArgs false

set_option maxHeartbeats 2000000 in
theorem beyondS {w : World} {b : Nat} {t : TypeId} (n : Nat) (hb : w.heap[b]? = some (.cells #[.int .i64 (n : Int)] t (0, 0))) (hn : n < 2 ^ 62) :
    Calls Try.prog 4 #[.slice (some ⟨b, 0, none⟩) 1 1] w fun e w' => e = .returned (.bool (decide (262144 < n))) ∧ Below w.heap.size w w' := by
  have x0 : w.cell? ⟨b, 0, none⟩ = some (.int .i64 (n : Int)) := cell_of_block hb rfl
  clear hb
  have g1 : ¬ ((n : Int) < 0) := by omega
  by_cases h : n ≤ 262144
  · have h1 : ¬ ((n : Int) > 262144) := by omega
    rw [show decide (262144 < n) = false from by simp; omega]
    go_enter Try.func4, Try.ntmps4
    go_wp2_with fail
    go_loopw [4, 3] (fun i acc wr => wr = w ∧ (i = .int .i64 0 ∧ acc = .int .i64 0 ∨ i = .int .i64 1 ∧ acc = .int .i64 (n : Int))) (fun i _ _ => (1 - intOf i).toNat)
    case atStart => exact ⟨rfl, .inl ⟨rfl, rfl⟩⟩
    case round =>
      obtain ⟨rfl, ⟨rfl, rfl⟩ | ⟨rfl, rfl⟩⟩ := hrel
      · go_wp2
        exact ⟨⟨trivial, .inr ⟨rfl, rfl⟩⟩, by simp [intOf]⟩
      · go_wp2
        go_ret
        exact ⟨rfl, Below.refl _ _⟩
  · have h1 : ((n : Int) > 262144) := by omega
    rw [show decide (262144 < n) = true from by simp; omega]
    go_enter Try.func4, Try.ntmps4
    go_wp2_with fail
    go_loopw [4, 3] (fun i acc wr => wr = w ∧ i = .int .i64 0 ∧ acc = .int .i64 0) (fun i _ _ => (1 - intOf i).toNat)
    case atStart => exact ⟨rfl, rfl, rfl⟩
    case round =>
      obtain ⟨rfl, rfl, rfl⟩ := hrel
      go_wp2
      go_ret
      exact ⟨rfl, Below.refl _ _⟩

theorem make_want (w : World) (n : Nat) (hn : n ≤ 65537) (z : Int) (hz : z = n) (c : Array Value) (hc : c = (List.replicate n (Value.int .i64 0)).toArray) :
    (Instr.makeSlice 25 (.int .i64 z) (.int .i64 z)).run Try.prog w = .ok (.slice (some ⟨w.heap.size, 0, none⟩) n n) (w.alloc (.cells c 2)) := make_wides w n hn z hz c hc

/-- what is done, as it grows -/
structure ListSt (w0 w' : World) (L : List Tx) (so : Option Addr) (n sp : Nat) : Prop where
  num : n = L.length
  ops : w'.ownsRow w0.heap.size 37 4 (.slice so n sp) n (L.flatMap encTx)
  bel : Below w0.heap.size w0 w'
theorem ListSt.push {w0 wr wa w5 : World} {n sp cp5 : Nat} {L : List Tx} {so ao5 : Option Addr} (h : ListSt w0 wr L so n sp) {x : Tx} (hwa : Below wr.heap.size wr wa)
    (hown : w5.ownsRow w0.heap.size 37 4 (.slice ao5 (n + 1) cp5) (n + 1) (L.flatMap encTx ++ encTx x)) (hgrown : wa.grownBy w5 (Value.slice so n sp).ownBlock) :
    ListSt w0 w5 (L ++ [x]) ao5 (n + 1) cp5 := by
  have hsz := hwa.size
  have hb0 := h.bel.size
  refine ⟨?_, ?_, ?_⟩
  · rw [List.length_append, h.num]; rfl
  · rw [flat_snoc]; exact hown
  · refine (h.bel.trans (hwa.mono hb0)).trans ?_
    exact (((Chg.refl (fun k => w0.heap.size ≤ k) wa)).grown hgrown (fun k hk => .inl (ownLt h.ops hk).1)).to_below (by omega) (fun k hk => hk)
theorem endOf_snoc (r n : Nat) : endOf (r + 1) n = endOf r n ++ [⟨n, 4, 0, 0⟩] := by
  unfold endOf
  rw [List.cons_append, List.replicate_succ']

/-- behind everybody's end: the words are what cells say -/
theorem tl_end {a b : Nat} {l : List Tx} {E : List Ev} {M : List Int} {s : HS} {cw : List Att} (hb : b ≤ 4) (hE : (runT a b (l ++ ends 65 b)).evs = E) (hM : (runT a b (l ++ ends 65 b)).mem = M)
    (h : SerH (runT a b (l ++ ends 65 b)).evs s cw (runT a b (l ++ ends 65 b)).clock (a + 1)) (ht : SerT (runT a b (l ++ ends 65 b)) s cw (a + 1)) {cells cells' : List (Int × Int)}
    (hl : LogOf (wrsAll (sortA s.atts)) cells) (hc : ∀ c, c ∈ cells' ↔ c ∈ cells) : (∀ c ∈ cells', 1 ≤ c.1 ∧ c.1 < (a + 1 : Nat)) ∧ fillC cells' (List.replicate (a + 1) 0) = M := by
  rw [← hM]
  have hok := TOk.run a b l
  have hall := TOk.run a b (l ++ ends 65 b)
  refine words_end h ht hall.mem (fun n t hn => ?_) hl hc
  have hnl := (List.getElem?_eq_some_iff.1 hn).1
  rw [hall.ths] at hnl
  have hap : runT a b (l ++ ends 65 b) = (ends 65 b).foldl TW.do_ (runT a b l) := by unfold runT; rw [List.foldl_append]
  rw [hap] at hn
  exact ends_idle (Nat.le_refl 65) b hok n t hnl hn

theorem fill_snoc {cells : List (Int × Int)} {k : Nat} {c : Int × Int} (h : cells[k]? = some c) (l : List Int) : fillC (cells.take (k + 1)) l = (fillC (cells.take k) l).set c.1.toNat c.2 := by
  unfold fillC
  rw [take_snoc h, List.foldl_append]
  rfl

set_option maxRecDepth 100000 in
set_option maxHeartbeats 16000000 in
theorem serial_any {w : World} {ao : Option Addr} {ca : Nat} {l : List Tx} (hl : RdT encTx w 4 (.slice ao l.length ca) l) (words threads : Int) (n1 : l.length < 2 ^ 62) :
    Calls Try.prog 3 #[.int .i64 words, .int .i64 threads, .slice ao l.length ca] w fun e w' => e = .returned (.bool true) ∧ Below w.heap.size w w' := by
  have HL := hidI hl
  clear hl
  go_enter Try.func3, Try.ntmps3
  go_wp2_with fail
  refine (beyondS l.length (block_new w _) n1).mono ?_
  rintro e w1 ⟨rfl, b1⟩
  have HB1 := hidI (bnextA (Below.refl _ w) b1)
  clear b1
  by_cases hbig : 262144 < l.length
  · rw [decide_eq_true hbig]
    go_wp2_with fail
    go_ret
    exact ⟨rfl, HB1.out⟩
  rw [decide_eq_false hbig]
  have HN := hidI hbig
  clear hbig n1
  have HL1 := hidI (Rd.below HL.out HB1.out)
  cases hr : RunRefused words threads l.length with
  | some e =>
    obtain ⟨f, hf, rfl, hne⟩ := refused_both (k := 0) hr
    have HR := hidI hr
    have hb : (f != 0) = true := by simpa using hne
    clear hr hf hne
    go_wp2_with fail
    refine (run_refused rfl words threads HR.out).mono ?_
    rintro e w2 ⟨rfl, b2⟩
    have HB2 := hidI (bnext HB1.out b2)
    clear b2
    go_wp2_with fail
    refine (lives_any _).mono ?_
    rintro e w3 ⟨rfl, b3⟩
    have HB3 := hidI (bnext HB2.out b3)
    clear b3
    go_wp2_with fail
    go_ret
    exact ⟨rfl, HB3.out⟩
  | none =>
    obtain ⟨a, b, rfl, rfl, ha, hb, hll⟩ := refused_none hr
    have HA := hidI ha
    have HBB := hidI hb
    have HLL := hidI hll
    clear hr ha hb hll
    obtain ⟨E1, hE1⟩ : ∃ E, (runT a b l).evs = E := ⟨_, rfl⟩
    obtain ⟨M1, hM1⟩ : ∃ M, (runT a b l).mem = M := ⟨_, rfl⟩
    have HE1 := hidI hE1
    have HM1 := hidI hM1
    have HEV := hidI (show E1.length ≤ 65536 from by rw [← hE1]; have := (TOk.run a b l).evs; have := HLL.out; omega)
    obtain ⟨s1, cw1, hs1, -, hof1, her1⟩ := ser_ofL (Ser.run HBB.out l)
    rw [hE1] at hs1 hof1 her1
    have HS1 := hidI hs1
    have HO1 := hidI hof1
    have HR1 := hidI her1
    clear hE1 hM1 hs1 hof1 her1
    go_wp2_with fail
    refine (run_ok HL1.out a b HA.out HBB.out HLL.out E1 M1 HE1.out HM1.out).mono ?_
    rintro e w2 ⟨eo1, ec1, g1, rfl, b2, he1, -, -⟩
    have HB2 := hidI (bnext HB1.out b2)
    have HV1 := hidI he1
    clear b2 he1
    go_wp2_with fail
    refine (rof_any HV1.out (by have := HEV.out; omega)).mono ?_
    rintro e w3 ⟨oo, oc, ps, hps, rfl, hown, b3⟩
    rw [HR1.out]
    have HB3 := hidI (bnext HB2.out b3)
    have HP := hidI (AttsR.of hown)
    have HG := hidI (HS1.out.got (ps := ps) (by have := HA.out; omega) HEV.out (by rw [hps, HO1.out]))
    generalize ofAt E1 = z1
    clear b3 hps hown
    go_wp2_with fail
    refine (check29_any HP.out HG.out.fine HG.out.inc (by have := HG.out.len; omega) (by have := HG.out.sum; omega) HG.out.ser).mono ?_
    rintro e w4 ⟨rfl, b4⟩
    have HB4 := hidI (bnext HB3.out b4)
    have HP4 := hidI (HP.out.below b4)
    clear b4
    go_wp2_with fail
    refine (check30_any HP4.out HG.out.fine HG.out.inc (by have := HG.out.len; omega) (by have := HG.out.sum; omega) HG.out.snap).mono ?_
    rintro e w5 ⟨rfl, b5⟩
    have HB5 := hidI (bnext HB4.out b5)
    clear b5 HP4 HP HG
    obtain ⟨i0, hi, hz0, hz1, hz2⟩ := info_parts txInfo
    have HLp := hidI (Rd.below HL.out HB5.out)
    go_wp2_with (at_builtin; refine wpList_append_rd _ rfl _ _ 22 rfl w5.heap.size 37 i0 _ 4 32 Try.underlying22 hi hz0 hz1 hz2 rfl (by decide) (.slice (some ⟨w5.heap.size, 0, none⟩) 0 0) 0 [] (by simp [Act.eval]) (own_empty w5 _ _) (.slice ao l.length ca) l.length (l.flatMap encTx) (by simp [Act.eval]) ?c1 ?c2 ?c3 ?c4 ?c5 ?_)
    case c1 => exact Rd.alloc HLp.out _
    case c2 => exact one_txs _
    case c3 => have := HN.out; unfold maxLen; omega
    case c4 => have := HN.out; omega
    case c5 => simp
    intro ao1 cp1 w6 hown hfrom hgrown
    have HBa := hidI (((Chg.refl (fun k => k = w5.heap.size) w5).alloc (.cells #[] 37)).grown hgrown (fun k hk => .inl (by simp only [Value.ownBlock, Option.some.injEq] at hk; exact hk.symm)) |>.to_below (Nat.le_refl _) (fun k hk => by rw [hk]; exact Nat.le_refl _))
    have HOa : Hid (w6.ownsRow w5.heap.size 37 4 (.slice ao1 l.length cp1) l.length (l.flatMap encTx)) := hidI (by simpa only [Nat.zero_add, List.nil_append] using hown)
    obtain ⟨W0, hW0⟩ : ∃ W, W = w5 := ⟨_, rfl⟩
    have HS0 := hidI (show ListSt W0 w6 (l ++ ends 65 0) ao1 l.length cp1 from ⟨by simp [ends], by rw [hW0]; simpa [ends] using HOa.out, by rw [hW0]; exact HBa.out⟩)
    have HB0 := hidI (show Below w.heap.size w W0 from by rw [hW0]; exact HB5.out)
    clear hown hfrom hgrown HBa HOa hW0 HLp
    go_wp2_with fail
    have hbb := HBB.out
    go_loopw [14, 15] (fun v i wr => ∃ (k n : Nat) (so : Option Addr) (sp : Nat), k ≤ b ∧ i = .int .i64 (k : Int) ∧ v = .slice so n sp ∧ Hid (ListSt W0 wr (l ++ ends 65 k) so n sp)) (fun _ i _ => ((b : Int) - intOf i).toNat)
    case atStart => exact ⟨0, l.length, ao1, cp1, Nat.zero_le _, rfl, rfl, HS0⟩
    case round =>
      obtain ⟨k, n, so, sp, hk, rfl, rfl, HS⟩ := hrel
      obtain ⟨wk, rfl⟩ : ∃ x, x = wr := ⟨_, rfl⟩
      by_cases hlt : k < b
      · have HNB := hidI (show n ≤ 66000 from by
          have h1 := HS.out.num
          have h2 := HLL.out
          have h3 := HBB.out
          rw [List.length_append, ends_len] at h1
          omega)
        have hw1 : IntKind.i64.wrap ((k : Int) + 1) = k + 1 := IntWalk.i64_in _ (by omega)
        obtain ⟨L, hL⟩ : ∃ L, l ++ ends 65 k = L := ⟨_, rfl⟩
        rw [hL] at HS
        have HLK := hidI hL
        clear hL
        go_wp2_with (at_builtin; refine wpList_append_d _ rfl _ _ 22 rfl W0.heap.size 37 i0 _ 4 32 Try.underlying22 hi hz0 hz1 hz2 rfl (by decide) (.slice so n sp) n _ (by simp [Act.eval]) (ownsRow_chg HS.out.ops ((Chg.refl (fun _ => False) wk).alloc _) (fun _ _ => id)) ⟨wk.heap.size, 0, none⟩ 1 1 (encTx ⟨k, 5, 0, 0⟩) (by simp [Act.eval]) rfl ?c1 ?c2 ?c3 ?c4 ?c5 ?_)
        case c1 => exact news_at (block_new _ _)
        case c2 => exact one_tx _
        case c3 => have := HNB.out; unfold maxLen; omega
        case c4 => have := HNB.out; omega
        case c5 => have := HS.out.bel.size; simp; omega
        intro ao7 cp7 w7 hown hfrom hgrown
        have HS7 := hidI (HS.out.push ((Below.refl _ wk).alloc (Nat.le_refl _) _) hown hgrown)
        clear hown hfrom hgrown
        have HT0 := hidI (show ListSt W0 w7 (l ++ (ends 65 k ++ endOf 0 k)) ao7 (n + 1) cp7 from by rw [← List.append_assoc, HLK.out]; exact HS7.out)
        clear HS7
        go_wp2_with fail
        go_loopw [14, 16] (fun v i wq => ∃ (r n : Nat) (so : Option Addr) (sp : Nat), r ≤ 65 ∧ i = .int .i64 (r : Int) ∧ v = .slice so n sp ∧ Hid (ListSt W0 wq (l ++ (ends 65 k ++ endOf r k)) so n sp)) (fun _ i _ => (65 - intOf i).toNat)
        case atStart => exact ⟨0, n + 1, ao7, cp7, Nat.zero_le _, rfl, rfl, HT0⟩
        case round =>
          clear HS HNB
          obtain ⟨r, n, so, sp, hr, rfl, rfl, HS⟩ := hrel
          by_cases hr65 : r < 65
          · have HNB := hidI (show n ≤ 66300 from by
              have h1 := HS.out.num
              have h2 := HLL.out
              have h3 := HBB.out
              rw [List.length_append, List.length_append, ends_len] at h1
              simp only [endOf, List.length_cons, List.length_replicate] at h1
              omega)
            obtain ⟨L2, hL2⟩ : ∃ L, l ++ (ends 65 k ++ endOf r k) = L := ⟨_, rfl⟩
            rw [hL2] at HS
            have HL2 := hidI hL2
            clear hL2
            go_wp2_with (at_builtin; refine wpList_append_d _ rfl _ _ 22 rfl W0.heap.size 37 i0 _ 4 32 Try.underlying22 hi hz0 hz1 hz2 rfl (by decide) (.slice so n sp) n _ (by simp [Act.eval]) (ownsRow_chg HS.out.ops ((Chg.refl (fun _ => False) wr).alloc _) (fun _ _ => id)) ⟨wr.heap.size, 0, none⟩ 1 1 (encTx ⟨k, 4, 0, 0⟩) (by simp [Act.eval]) rfl ?c1 ?c2 ?c3 ?c4 ?c5 ?_)
            case c1 => exact news_at (block_new _ _)
            case c2 => exact one_tx _
            case c3 => have := HNB.out; unfold maxLen; omega
            case c4 => have := HNB.out; omega
            case c5 => have := HS.out.bel.size; simp; omega
            intro ao8 cp8 w8 hown hfrom hgrown
            have HS8 := hidI (HS.out.push ((Below.refl _ wr).alloc (Nat.le_refl _) _) hown hgrown)
            clear hown hfrom hgrown
            have HT1 := hidI (show ListSt W0 w8 (l ++ (ends 65 k ++ endOf (r + 1) k)) ao8 (n + 1) cp8 from by rw [endOf_snoc, ← List.append_assoc (ends 65 k), ← List.append_assoc l, HL2.out]; exact HS8.out)
            clear HS8
            go_wp2_with fail
            exact ⟨⟨r + 1, n + 1, ao8, cp8, by omega, by go_num, rfl, HT1⟩, by simp [intOf]; omega⟩
          · obtain rfl : r = 65 := by omega
            have HT2 := hidI (show ListSt W0 wr (l ++ ends 65 (k + 1)) so n sp from by rw [ends_succ]; exact HS.out)
            clear HS
            go_wp2_with fail
            exact ⟨⟨k + 1, n, so, sp, by omega, by go_num, rfl, HT2⟩, by simp [intOf]; omega⟩
      · obtain rfl : b = k := by omega
        obtain ⟨L, hL⟩ : ∃ L, l ++ ends 65 b = L := ⟨_, rfl⟩
        rw [hL] at HS
        have hnum := HS.out.num
        subst hnum
        have HRL := hidI (show RdT encTx wk 4 (.slice so L.length sp) L from Rd.of_own HS.out.ops)
        have HBL := hidI (show Below w.heap.size w wk from HB0.out.trans (HS.out.bel.mono HB0.out.size))
        clear HS
        cases hr2 : RunRefused a b L.length with
        | some f =>
          have hll := HLL.out
          have haa := HA.out
          have hbb := HBB.out
          have hf3 : f = 3 := by
            unfold RunRefused at hr2
            rw [if_neg (by omega)] at hr2
            split at hr2
            · cases hr2; rfl
            · cases hr2
          subst hf3
          have HF := hidI hr2
          clear hr2 hll haa hbb hL
          go_wp2_with fail
          refine (run_refused (l := L) (ao := so) (cap := sp) rfl a b HF.out).mono ?_
          rintro e w7 ⟨rfl, b7⟩
          have HB7 := hidI (bnext HBL.out b7)
          clear b7
          go_wp2_with fail
          refine (lives_any _).mono ?_
          rintro e w8 ⟨rfl, b8⟩
          have HB8 := hidI (bnext HB7.out b8)
          clear b8
          go_wp2_with fail
          go_ret
          exact ⟨rfl, HB8.out⟩
        | none =>
          obtain ⟨a', b', q1, q2, q3, q4, hl2⟩ := refused_none hr2
          clear hr2 q1 q2 q3 q4
          have HL2 := hidI hl2
          obtain ⟨E2, hE2⟩ : ∃ E, (runT a b L).evs = E := ⟨_, rfl⟩
          obtain ⟨M2, hM2⟩ : ∃ M, (runT a b L).mem = M := ⟨_, rfl⟩
          have HE2 := hidI hE2
          have HM2 := hidI hM2
          have HEV2 := hidI (show E2.length ≤ 65536 from by rw [← hE2]; have := (TOk.run a b L).evs; omega)
          have HML := hidI (show M2.length = a + 1 from by rw [← hM2]; exact (TOk.run a b L).mem)
          obtain ⟨s2, cw2, hs2, ht2, hof2, her2⟩ := ser_ofL (Ser.run HBB.out L)
          have HEND := hidI (show ∀ (cells cells' : List (Int × Int)), LogOf (wrsAll (sortA s2.atts)) cells → (∀ c, c ∈ cells' ↔ c ∈ cells) → (∀ c ∈ cells', 1 ≤ c.1 ∧ c.1 < (a + 1 : Nat)) ∧ fillC cells' (List.replicate (a + 1) 0) = M2 from fun cells cells' h1 h2 => tl_end (b := b) (l := l) (E := E2) (M := M2) (s := s2) (cw := cw2) HBB.out (by rw [hL]; exact hE2) (by rw [hL]; exact hM2) (by rw [hL]; exact hs2) (by rw [hL]; exact ht2) h1 h2)
          rw [hE2] at hs2 hof2 her2
          have HS2 := hidI hs2
          have HO2 := hidI hof2
          have HR2 := hidI her2
          clear hL hE2 hM2 hs2 ht2 hof2 her2 hl2
          go_wp2_with fail
          refine (run_ok (l := L) HRL.out a b HA.out HBB.out HL2.out E2 M2 HE2.out HM2.out).mono ?_
          rintro e w7 ⟨eo2, ec2, g2, rfl, b7, he2, hm7, -⟩
          have HB7 := hidI (bnext HBL.out b7)
          have HV2 := hidI he2
          have HMB := hidI hm7
          clear b7 he2 hm7
          go_wp2_with fail
          refine (rof_any HV2.out (by have := HEV2.out; omega)).mono ?_
          rintro e w8 ⟨oo2, oc2, ps2, hps, rfl, hown, b8⟩
          rw [HR2.out]
          have HB8 := hidI (bnext HB7.out b8)
          have HP2 := hidI (AttsR.of hown)
          have hpe : ps2.map Prod.fst = s2.atts := by rw [hps, HO2.out]
          have HG2 := hidI (HS2.out.got (ps := ps2) (by have := HA.out; omega) HEV2.out hpe)
          have HPE := hidI hpe
          have HMB8 := hidI (blk b8 HMB.out)
          generalize ofAt E2 = z2
          clear b8 hps hown hpe HMB
          go_wp2_with fail
          refine (words29_any HP2.out HG2.out).mono ?_
          rintro e w9 ⟨co, cc, cells, cells', rfl, hcr, hlog, hmem, hlen, hcl, b9⟩
          rw [HPE.out] at hlog
          have HB9 := hidI (bnext HB8.out b9)
          have HMB9 := hidI (blk b9 HMB8.out)
          have HCR := hidI hcr
          have HENDS := hidI (HEND.out cells cells' hlog hmem)
          clear hcr hlog hmem hlen b9 HMB8 HP2 HG2 HPE
          have haa := HA.out
          have e1 : IntKind.i64.wrap ((a : Int) + 1) = a + 1 := IntWalk.i64_in _ (by omega)
          obtain ⟨Z, hZ⟩ : ∃ c : Array Value, c = (List.replicate (a + 1) (Value.int .i64 0)).toArray := ⟨_, rfl⟩
          have hm1 := fun w => make_want w (a + 1) (by omega) ((a : Int) + 1) (by omega) Z hZ
          have HZZ := hidI hZ
          clear hZ
          have HCL := hidI hcl
          clear hcl
          go_wp2_with fail
          have HWB0 := hidI (show (w9.alloc (.cells Z 2)).heap[w9.heap.size]? = some (.cells ((fillC (cells'.take 0) (List.replicate (a + 1) 0)).map (Value.int .i64)).toArray 2 (0, 0)) from by rw [block_new, HZZ.out, List.take_zero]; simp [fillC])
          have HBW0 := hidI (show Below w9.heap.size w9 (w9.alloc (.cells Z 2)) from (Below.refl _ _).alloc (Nat.le_refl _) _)
          generalize w9.alloc (.cells Z 2) = wa at HWB0 HBW0 ⊢
          have HGE := hidI (Nat.le_refl w9.heap.size)
          obtain ⟨gw, hgw⟩ : ∃ g, g = w9.heap.size := ⟨_, rfl⟩
          have HGW := hidI (show w9.heap.size ≤ gw from by omega)
          rw [← hgw] at HWB0 ⊢
          clear hgw HZZ hm1 Z HGE
          have hcl := HCL.out
          go_loopw [19] (fun i wr => ∃ k : Nat, k ≤ cells'.length ∧ i = .int .i64 (k : Int) ∧ Hid (wr.heap[gw]? = some (.cells ((fillC (cells'.take k) (List.replicate (a + 1) 0)).map (Value.int .i64)).toArray 2 (0, 0))) ∧ Hid (Below w9.heap.size w9 wr)) (fun i _ => ((cells'.length : Int) - intOf i).toNat)
          case atStart => exact ⟨0, Nat.zero_le _, rfl, HWB0, HBW0⟩
          case round =>
            obtain ⟨k, hk, rfl, HWB, HBW⟩ := hrel
            by_cases hlt : k < cells'.length
            · obtain ⟨⟨x, v⟩, hx⟩ := some_at hlt
              have hxr := HENDS.out.1 _ (List.mem_of_getElem? hx)
              simp only at hxr
              obtain ⟨xn, rfl⟩ : ∃ n : Nat, x = (n : Int) := ⟨x.toNat, by omega⟩
              obtain ⟨b3, off3, rfl, hs3, hc3⟩ := RdT.at encCell_len (Rd.below HCR.out HBW.out) hx
              have y0 := hc3 0 _ rfl
              have y1 := hc3 1 _ rfl
              simp only [Nat.add_zero] at y0
              have q1 : xn < a + 1 := by omega
              have q2 : decide (a < xn) = false := decide_eq_false (by omega)
              have q3 : ¬ a < xn := by omega
              have q4 : (xn : Int) < (a : Int) + 1 := by omega
              have hfl : (fillC (cells'.take k) (List.replicate (a + 1) 0)).length = a + 1 := by rw [fillC_len, List.length_replicate]
              have z0 : wr.cell? ⟨gw, xn, none⟩ = some (.int .i64 ((fillC (cells'.take k) (List.replicate (a + 1) 0)).getD xn 0)) := cell_of_block HWB.out (by simp [hfl, q1])
              generalize (fillC (cells'.take k) (List.replicate (a + 1) 0)).getD xn 0 = old at z0
              have z1 : wr.frozen? ⟨gw, xn, none⟩ = false := free_of_block HWB.out
              have HN := hidI (show ((wr.setCell ⟨gw, xn, none⟩ (.int .i64 v)).drew).heap[gw]? = some (.cells ((fillC (cells'.take (k + 1)) (List.replicate (a + 1) 0)).map (Value.int .i64)).toArray 2 (0, 0)) from by
                rw [fill_snoc hx]
                have := block_setCell (o := xn) (.int .i64 v) HWB.out
                show (wr.setCell ⟨gw, xn, none⟩ (.int .i64 v)).heap[gw]? = _
                rw [this]
                simp [List.map_set])
              have HNB := hidI (show Below w9.heap.size w9 (wr.setCell ⟨gw, xn, none⟩ (.int .i64 v)).drew from below_drewN (HBW.out.setCell (p := ⟨gw, xn, none⟩) HGW.out (.int .i64 v)) 1)
              clear hxr hc3 hs3 hfl hx
              go_wp2_with fail
              go_region
              go_wp2_with fail
              exact ⟨⟨k + 1, by omega, by go_num, HN, HNB⟩, by simp [intOf]; omega⟩
            · obtain rfl : k = cells'.length := by omega
              have hwb := HWB.out
              rw [List.take_length, HENDS.out.2] at hwb
              have HB10 := hidI (HB9.out.trans (HBW.out.mono HB9.out.size))
              have HM1 := hidI (rdt_mem (n := a + 1) (blk HBW.out HMB9.out) HML.out.symm)
              have HM2 := hidI (rdt_mem (n := a + 1) hwb HML.out.symm)
              have HL9 := hidI (show M2.length ≤ 9223372036854775807 from by have := HML.out; omega)
              have HSW := hidI (show Calls Try.prog 11 #[.slice (some ⟨g2, 0, none⟩) (a + 1) (a + 1), .slice (some ⟨gw, 0, none⟩) (a + 1) (a + 1)] wr fun e w' => e = .returned (.bool true) ∧ Below wr.heap.size wr w' from by
                have h1 := HM1.out
                have h2 := HM2.out
                rw [← HML.out] at h1 h2 ⊢
                exact sameWides_true h1 h2 HL9.out)
              clear hwb
              go_wp2_with fail
              refine HSW.out.mono ?_
              rintro e w11 ⟨rfl, b11⟩
              have HB11 := hidI (bnext HB10.out b11)
              clear b11
              go_wp2_with fail
              refine (lives_any _).mono ?_
              rintro e w12 ⟨rfl, b12⟩
              have HB12 := hidI (bnext HB11.out b12)
              clear b12
              go_wp2_with fail
              go_ret
              exact ⟨rfl, HB12.out⟩
end Go.Proofs.Ytlphjkgjcfhihaa

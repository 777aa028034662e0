/- Part of the proof: EmT -/
import Derived.Test.YtgodmogkhgilmaaGreatDoorP20
import Derived.Deep.CutRange
namespace Go.Proofs.YtgodmogkhgilmaaGreatDoor
open Go.RowKit
set_option linter.unusedVariables false
set_option linter.unusedSimpArgs false
set_option maxHeartbeats 8000000
set_option maxRecDepth 100000
variable {w w' : World}
def imgZs (n : Nat) : List Int := List.replicate n 32
def imgPs (words : Int) (n : Nat) : List PlaceD := mkP words (imgZs n)
def imgSize (words : Int) (n : Nat) : Int := mkS words (imgZs n)
theorem frames_places (zs : List Int) : ∀ {s : Int × Bool}, (∀ z ∈ zs, 0 ≤ z) → InMem s.1 → (fin zs s).2 = false → framesOf (placesOf zs s) = zs := by
  induction zs with
  | nil => intro s _ _ _; rfl
  | cons n l ih =>
    intro s hz hs hf
    have hn := hz n List.mem_cons_self
    have h1 := tk_ok hn hs
    have h2 := tk_ok (n := 128) (by decide) h1
    have h3 := tk_ok (n := 64) (by decide) h2
    have h4 := tk_ok (n := 4096) (by decide) h3
    have ht : (tk n s).1 = s.1 + n := by
      unfold tk
      split
      · rename_i hc
        exfalso
        have : (fin l (adv n s)).2 = true := fin_over l (tk_over (tk_over (tk_over (by unfold tk; rw [if_pos hc]))))
        unfold fin at hf
        rw [this] at hf
        cases hf
      · rfl
    unfold placesOf framesOf
    rw [List.map_cons]
    congr 1
    · unfold frameOf wrap64
      obtain ⟨a1, a2⟩ := hs
      obtain ⟨b1, b2⟩ := h1
      simp only
      rw [ht] at b1 b2 ⊢
      omega
    · exact ih (fun z hm => hz z (List.mem_cons_of_mem _ hm)) h4 hf
theorem imgZs_nonneg (n : Nat) : ∀ z ∈ imgZs n, 0 ≤ z := fun z hz => by rw [(List.mem_replicate.1 hz).2]; decide
theorem img_planned {words : Int} {n : Nat} (h : mkErr words (imgZs n) = 0) : Planned words (imgSize words n) (imgPs words n) ∧ (imgPs words n).length = n := by
  have hw := mkErr_words h
  have hp : imgPs words n = placesOf (imgZs n) (s0 words) := if_pos h
  have hf : (fin (imgZs n) (s0 words)).2 = false := by
    cases hq : (fin (imgZs n) (s0 words)).2 with
    | false => rfl
    | true =>
      exfalso
      unfold mkErr at h
      split at h
      · cases h
      · split at h
        · cases h
        · split at h
          · cases h
          · first
            | cases h
            | (rw [if_pos hq] at h; cases h)
  have hfr : framesOf (imgPs words n) = imgZs n := by
    rw [hp]
    exact frames_places _ (imgZs_nonneg n) (tk_ok (by decide) (tk_ok hw.1 ⟨by decide, by decide⟩)) hf
  refine ⟨⟨fun p hp' => ?_, by rw [hfr]; exact h, by rw [hfr]; rfl, by rw [hfr]; rfl⟩, by rw [hp, places_len]; simp [imgZs]⟩
  have : frameOf p ∈ imgZs n := by rw [← hfr]; exact List.mem_map_of_mem hp'
  rw [(List.mem_replicate.1 this).2]
  decide
def imgTx (words : Int) (n i : Nat) : TxC := txOf words (imgSize words n) ((imgPs words n).getD i ⟨0, 0, 0, 0, 0⟩) i
def imgCd (words : Int) (n i : Nat) (rows : List (List Tx)) : Cd := (rowsCd (imgTx words n i) rows).halt
def encR2 (p : Value × List (Value × List Tx)) : List Value := [p.1]
theorem encR2_len : ∀ p, (encR2 p).length = 1 := fun _ => rfl
structure ThsAt (w : World) (v : Value) (ts : List (Value × List (Value × List Tx))) : Prop where
  rows : RdT encR2 w 1 v ts
  each : ∀ p ∈ ts, RowsAt w p.1 p.2
  tot : ∀ p ∈ ts, txTotal p.2 ≤ 262144
theorem ThsAt.below {v : Value} {ts : List (Value × List (Value × List Tx))} (h : ThsAt w v ts) (hb : Below w.heap.size w w') : ThsAt w' v ts := ⟨Rd.below h.rows hb, fun p hp => (h.each p hp).below hb, h.tot⟩
def rowsOf (p : Value × List (Value × List Tx)) : List (List Tx) := p.2.map Prod.snd
structure CodesIn (w : World) (base : Nat) (cs : List (Nat × List OpD)) : Prop where
  blk : ∀ p ∈ cs, w.heap[p.1]? = some (.cells (p.2.flatMap encOp).toArray 101 (0, 0)) ∧ base ≤ p.1
  inj : (cs.map Prod.fst).Nodup
def codeV1 (p : Nat × List OpD) : Value := .slice (some ⟨p.1, 0, none⟩) p.2.length p.2.length
theorem CodesIn.below {base : Nat} {cs : List (Nat × List OpD)} (h : CodesIn w base cs) (hb : Below w.heap.size w w') : CodesIn w' base cs := ⟨fun p hp => ⟨Go.Proofs.YtgodmogkhgilmaaGreatDoor.blk hb (h.blk p hp).1, (h.blk p hp).2⟩, h.inj⟩
def lenSum (cs : List (Nat × List OpD)) : Nat := (cs.map fun p => p.2.length).sum
structure CodesAre (words : Int) (n : Nat) (ts : List (Value × List (Value × List Tx))) (cs : List (Nat × List OpD)) : Prop where
  len : cs.length = ts.length
  at_ : ∀ (i : Nat) p t, cs[i]? = some p → ts[i]? = some t → p.2 = (imgCd words n i (rowsOf t)).done ∧ (imgCd words n i (rowsOf t)).over = false
def Fail3 (words : Int) (ts : List (Value × List (Value × List Tx))) : Prop :=
  4 < ts.length ∨ mkErr words (imgZs ts.length) = 3 ∨
  (∃ i t j, ts[i]? = some t ∧ j ≤ t.2.length ∧ ((rowsCd (imgTx words ts.length i) ((t.2.take j).map Prod.snd)).over = true ∨ (rowsCd (imgTx words ts.length i) ((t.2.take j).map Prod.snd)).halt.over = true)) ∨
  (∃ i cs, i ≤ ts.length ∧ CodesAre words ts.length (ts.take i) cs ∧ 262144 < lenSum cs)
def ImagePost (words : Int) (ts : List (Value × List (Value × List Tx))) (w : World) (e : Ending) (w' : World) : Prop :=
  Below w.heap.size w w' ∧
  ((∃ en, e = .returned (.tuple #[.agg #[.slice none 0 0, .int .i64 0, .slice none 0 0], .int .i64 en]) ∧
      (en = 1 ∧ (words < 0 ∨ ∃ t ∈ ts, okRows words t.2 = false) ∨ en = 3 ∧ Fail3 words ts)) ∨
   ∃ (co : Option Addr) (cc : Nat) (cs : List (Nat × List OpD)), e = .returned (.tuple #[.agg #[.slice co cs.length cc, .int .i64 (imgSize words ts.length), .slice none 0 0], .int .i64 0]) ∧
      w'.ownsRow w.heap.size 79 1 (.slice co cs.length cc) cs.length (cs.map codeV1) ∧ CodesIn w' w.heap.size cs ∧ CodesAre words ts.length ts cs ∧ lenSum cs ≤ 262144 ∧
      mkErr words (imgZs ts.length) = 0 ∧ ts.length ≤ 4 ∧ ∀ t ∈ ts, okRows words t.2 = true)
def ErrX (words : Int) (ts : List (Value × List (Value × List Tx))) (en : Int) : Prop :=
  (4 < ts.length ∧ en = 3) ∨ (ts.length ≤ 4 ∧ mkErr words (imgZs ts.length) = en ∧ en ≠ 0) ∨
  (ts.length ≤ 4 ∧ mkErr words (imgZs ts.length) = 0 ∧ ∃ j cs t, ts[j]? = some t ∧ CodesAre words ts.length (ts.take j) cs ∧ lenSum cs ≤ 262144 ∧ (∀ t ∈ ts.take j, okRows words t.2 = true) ∧
    ((en = 1 ∧ okRows words t.2 = false) ∨ (en = 3 ∧ okRows words t.2 = true ∧ ((∃ jj, jj ≤ t.2.length ∧ ((rowsCd (imgTx words ts.length j) ((t.2.take jj).map Prod.snd)).over = true ∨ (rowsCd (imgTx words ts.length j) ((t.2.take jj).map Prod.snd)).halt.over = true)) ∨
      (imgCd words ts.length j (rowsOf t)).over = false ∧ 262144 < lenSum cs + (imgCd words ts.length j (rowsOf t)).done.length))))
def ErrPost (words : Int) (ts : List (Value × List (Value × List Tx))) (e : Ending) : Prop := ∀ v en, e = .returned (.tuple #[v, .int .i64 en]) → en = 0 ∨ ErrX words ts en
theorem mkErr_img (words : Int) (n : Nat) : mkErr words (imgZs n) = 0 ∨ mkErr words (imgZs n) = 1 ∧ words < 0 ∨ mkErr words (imgZs n) = 3 := by
  unfold mkErr
  split
  · rename_i h; exact .inr (.inl ⟨rfl, h⟩)
  · split
    · rename_i h
      obtain ⟨j, hj, hn⟩ := h
      exfalso
      have := imgZs_nonneg n (nth (imgZs n) j) (by unfold nth; rw [List.getD_eq_getElem?_getD, List.getElem?_eq_getElem hj]; exact List.getElem_mem hj)
      omega
    · split
      · exact .inr (.inr rfl)
      · split
        · exact .inr (.inr rfl)
        · exact .inl rfl
theorem imgZs_len (n : Nat) : (imgZs n).length = n := by simp [imgZs]
def fillF (n k : Nat) : List Value := (List.replicate k (32 : Int) ++ List.replicate (n - k) 0).map (Value.int .i64)
theorem fillF_set {n k : Nat} (h : k < n) : (fillF n k).set k (.int .i64 32) = fillF n (k + 1) := by
  unfold fillF
  rw [show n - k = (n - (k + 1)) + 1 from by omega, List.replicate_succ, List.map_append, List.set_append_right _ _ (by simp), List.length_map, List.length_replicate, Nat.sub_self, List.map_cons, List.set_cons_zero, List.replicate_succ', List.append_assoc, List.map_append]
  rfl
theorem fillF_at {n k : Nat} (h : k < n) : (fillF n k)[k]? = some (.int .i64 0) := by
  unfold fillF
  rw [show n - k = (n - (k + 1)) + 1 from by omega, List.replicate_succ, List.getElem?_map, List.getElem?_append_right (by simp), List.length_replicate, Nat.sub_self]
  rfl
theorem CodesAre.snoc {words : Int} {n j : Nat} {ts : List (Value × List (Value × List Tx))} {cs : List (Nat × List OpD)} {t : Value × List (Value × List Tx)} {p : Nat × List OpD} (h : CodesAre words n (ts.take j) cs) (ht : ts[j]? = some t)
    (hp : p.2 = (imgCd words n j (rowsOf t)).done ∧ (imgCd words n j (rowsOf t)).over = false) : CodesAre words n (ts.take (j + 1)) (cs ++ [p]) := by
  have hj := (List.getElem?_eq_some_iff.1 ht).1
  have hl := h.len
  rw [List.length_take, Nat.min_eq_left (by omega)] at hl
  refine ⟨by rw [List.length_append, List.length_take]; simp; omega, fun i q u hq hu => ?_⟩
  rcases Nat.lt_or_ge i j with hi | hi
  · rw [List.getElem?_append_left (by omega)] at hq
    rw [List.getElem?_take_of_lt (by omega)] at hu
    exact h.at_ i q u hq (by rw [List.getElem?_take_of_lt hi]; exact hu)
  · have hi2 := (List.getElem?_eq_some_iff.1 hu).1
    rw [List.length_take] at hi2
    obtain rfl : i = j := by omega
    rw [List.getElem?_append_right (by omega), hl, Nat.sub_self] at hq
    simp only [List.getElem?_cons_zero, Option.some.injEq] at hq
    subst hq
    rw [List.getElem?_take_of_lt (by omega), ht] at hu
    cases hu
    exact hp
theorem emCodeInfo : (Tryz.prog.info? 79).map (fun i => (i.zero, i.size, i.bytes)) = some (some (.slice none 0 0), 1, 24) := by kernel_rfl
theorem image2_any {ta : Option Addr} {tc : Nat} {ts : List (Value × List (Value × List Tx))} (h : ThsAt w (.slice ta ts.length tc) ts) (hl : ts.length ≤ 9000000000000) (words : Int) :
    Calls Tryz.prog 7 #[.int .i64 words, .slice ta ts.length tc] w (fun e w' => ImagePost words ts w e w' ∧ ErrPost words ts e) := by
  have H := hidI h
  have HL := hidI hl
  clear h
  have HR0 := hidI (block_new w (.cells #[.slice none 0 0, .int .i64 0, .slice none 0 0] 30))
  have HB0 := hidI ((Below.refl w.heap.size w).alloc (Nat.le_refl _) (.cells #[.slice none 0 0, .int .i64 0, .slice none 0 0] 30))
  obtain ⟨i0, hi, hz0, hz1, hz2⟩ := info_parts emIntInfo
  by_cases h4 : 4 < ts.length
  · have q1 : ((ts.length : Int) > 4) := by omega
    have H4 := hidI h4
    clear h4
    go_enter Tryz.func7, Tryz.ntmps7
    go_wp2_with fail
    refine bodyPost_ret (v := .tuple #[.agg #[.slice none 0 0, .int .i64 0, .slice none 0 0], .int .i64 3]) (by simp [results, Tryz.results7, go_sem]) rfl ?_
    exact ⟨⟨HB0.out, .inl ⟨3, rfl, .inr ⟨rfl, .inl H4.out⟩⟩⟩, fun v en h9 => .inr (by cases h9; exact .inl ⟨H4.out, rfl⟩)⟩
  · have q1 : ¬ ((ts.length : Int) > 4) := by omega
    go_enter Tryz.func7, Tryz.ntmps7
    have H4 := hidI h4
    go_wp2_with (at_make; refine wpList_make_s _ rfl _ _ 69 rfl 3 i0 _ 1 [.int .i64 0] Tryz.underlying69 hi hz0 hz1 rfl rfl (by decide) _ _ _ _ ts.length ts.length rfl rfl rfl rfl (Nat.le_refl _) (by rw [hz2]; have := H4.out; omega) (by have := H4.out; unfold maxLen; omega) ?_)
    intro w1 hg1 hs1 hb1
    have hb1 : Below (w.alloc (.cells #[.slice none 0 0, .int .i64 0, .slice none 0 0] 30)).heap.size (w.alloc (.cells #[.slice none 0 0, .int .i64 0, .slice none 0 0] 30)) w1 := by first | exact hb1 | (rw [World.size_alloc]; exact hb1)
    have hg1 : w1.heap[w.heap.size + 1]? = _ := hg1
    have hs1 : w1.heap.size = w.heap.size + 1 + 1 := hs1
    obtain ⟨br, hbr⟩ : ∃ b, b = w.heap.size := ⟨_, rfl⟩
    have HBR := hidI hbr
    have HR1 := hidI (blk hb1 HR0.out)
    have HB1 := hidI (HB0.out.trans (hb1.mono HB0.out.size))
    obtain ⟨bf, hbf⟩ : ∃ b, b = w.heap.size + 1 := ⟨_, rfl⟩
    have HBF := hidI hbf
    rw [← hbf] at hg1 ⊢
    rw [← hbr] at HR1 ⊢
    have HF1 := hidI (show w1.heap[bf]? = some (.cells (fillF ts.length 0).toArray 3 (0, 0)) from by rw [hg1]; unfold fillF; simp)
    have HS1 := hidI (show bf < w1.heap.size from by omega)
    clear hg1 hs1 hb1 hbr hbf HR0 HB0 hi hz0 hz1 hz2
    go_wp2_with fail
    have h4' : ts.length ≤ 4 := by have := H4.out; omega
    go_loopw [25] (fun i wr => ∃ k : Nat, k ≤ ts.length ∧ i = .int .i64 (k : Int) ∧ Hid (wr.heap[bf]? = some (.cells (fillF ts.length k).toArray 3 (0, 0))) ∧ Hid (Below w.heap.size w wr) ∧ Hid (wr.heap[br]? = some (.cells #[.slice none 0 0, .int .i64 0, .slice none 0 0] 30 (0, 0)))) (fun i _ => ((ts.length : Int) - intOf i).toNat)
    case atStart => exact ⟨0, Nat.zero_le _, rfl, HF1, HB1, HR1⟩
    case round =>
      obtain ⟨k, hk, rfl, HF, HB, HR⟩ := hrel
      clear HF1 HB1 HR1
      by_cases hlt : k < ts.length
      · have f0 : wr.frozen? ⟨bf, k, none⟩ = false := free_of_block HF.out
        have d0 : wr.cell? ⟨bf, k, none⟩ = some (.int .i64 0) := cell_of_block HF.out (by rw [List.getElem?_toArray]; exact fillF_at hlt)
        have HF2 := hidI (show (wr.setCell ⟨bf, k, none⟩ (.int .i64 32)).heap[bf]? = some (.cells (fillF ts.length (k + 1)).toArray 3 (0, 0)) from by
          rw [block_setCell (o := k) (.int .i64 32) HF.out, ← fillF_set hlt]; simp)
        have HB2 := hidI (HB.out.setCell (p := ⟨bf, k, none⟩) (by have := HBF.out; show w.heap.size ≤ bf; omega) (.int .i64 32))
        have HR2 := hidI (block_other (a := ⟨bf, k, none⟩) (u := .int .i64 32) HR.out (by have := HBF.out; have := HBR.out; show br ≠ bf; omega))
        have hw1 : IntKind.i64.wrap ((k : Int) + 1) = k + 1 := IntWalk.i64_in _ (by omega)
        go_wp2_with fail
        exact ⟨⟨k + 1, by omega, by go_num, HF2, HB2, HR2⟩, by simp [intOf]; omega⟩
      · obtain rfl : k = ts.length := by omega
        have HMAKE := hidI (show Calls Tryz.prog 19 #[.int .i64 words, .slice (some ⟨bf, 0, none⟩) ts.length ts.length] wr (MkPost words (imgZs ts.length) wr) from by
          have h9 := make_any words (some ⟨bf, 0, none⟩) (imgZs ts.length) ts.length wr ⟨_, _, rfl, by rw [imgZs_len]; exact Nat.le_refl _, fun i hi => ⟨bf, 0, rfl, lt_of_block HF.out, cell_of_block HF.out (by
            rw [imgZs_len] at hi
            unfold fillF imgZs nth
            simp [hi])⟩⟩ (by rw [imgZs_len]; omega)
          rw [imgZs_len] at h9
          exact h9)
        clear hlt
        go_wp2_with fail
        refine HMAKE.out.mono ?_
        intro e w2 hm
        obtain ⟨mo, mc, rfl, hmo, hb2⟩ := MkU.of hm
        have HMO := hidI (ownsRow_mono hmo (Nat.zero_le _))
        have HB2 := hidI (HB.out.trans (hb2.mono HB.out.size))
        have HR2 := hidI (blk hb2 HR.out)
        have HMC := hidI (mkErr_img words ts.length)
        clear hm hmo hb2 HMAKE
        obtain ⟨me, hme⟩ : ∃ x, x = mkErr words (imgZs ts.length) := ⟨_, rfl⟩
        obtain ⟨ms, hms⟩ : ∃ x, x = mkS words (imgZs ts.length) := ⟨_, rfl⟩
        obtain ⟨mw, hmw⟩ : ∃ x, x = mkW words (imgZs ts.length) := ⟨_, rfl⟩
        obtain ⟨mp, hmp⟩ : ∃ x, x = mkP words (imgZs ts.length) := ⟨_, rfl⟩
        rw [← hmp] at HMO
        rw [← hme, ← hms, ← hmw, ← hmp]
        have HME := hidI hme
        have HMS := hidI hms
        have HMW := hidI hmw
        have HMP := hidI hmp
        clear hme hms hmw hmp
        by_cases he : me = 0
        · subst he
          have HB4 := hidI ((HB2.out.alloc HB2.out.size (.cells #[.int .i64 mw, .slice mo mp.length mc, .int .i64 ms] 76)).alloc (by have := HB2.out.size; rw [World.size_alloc]; omega) (.cells #[.slice none 0 0, .int .i64 ms, .slice none 0 0] 30))
          have HR4 := hidI (block_alloc (o := (.cells #[.slice none 0 0, .int .i64 ms, .slice none 0 0] 30)) (block_alloc (o := (.cells #[.int .i64 mw, .slice mo mp.length mc, .int .i64 ms] 76)) HR2.out))
          have HQ4 := hidI (block_alloc (o := (.cells #[.slice none 0 0, .int .i64 ms, .slice none 0 0] 30)) (block_new w2 (.cells #[.int .i64 mw, .slice mo mp.length mc, .int .i64 ms] 76)))
          have HM4 := hidI (block_new2 w2 (.cells #[.int .i64 mw, .slice mo mp.length mc, .int .i64 ms] 76) (.cells #[.slice none 0 0, .int .i64 ms, .slice none 0 0] 30))
          have HMO4 := hidI (ownsRow_chg HMO.out (((Chg.refl (fun _ => False) w2).alloc (.cells #[.int .i64 mw, .slice mo mp.length mc, .int .i64 ms] 76)).alloc (.cells #[.slice none 0 0, .int .i64 ms, .slice none 0 0] 30)) (fun _ _ e => e))
          have HS4 := hidI (show w2.heap.size + 2 ≤ ((w2.alloc (.cells #[.int .i64 mw, .slice mo mp.length mc, .int .i64 ms] 76)).alloc (.cells #[.slice none 0 0, .int .i64 ms, .slice none 0 0] 30)).heap.size from by rw [World.size_alloc, World.size_alloc]; omega)
          have HPL := hidI (img_planned (words := words) (n := ts.length) HME.out.symm)
          go_wp2_with fail
          obtain ⟨bm, hbm⟩ : ∃ b, b = w2.heap.size + 1 := ⟨_, rfl⟩
          obtain ⟨bq, hbq⟩ : ∃ b, b = w2.heap.size := ⟨_, rfl⟩
          have HBQ := hidI (show w.heap.size ≤ bq ∧ bm = bq + 1 ∧ br < bq from by have h1 := lt_of_block HR2.out; have h2 := HB2.out.size; omega)
          rw [← hbm] at HM4 ⊢
          rw [← hbq] at HQ4 HS4 ⊢
          clear hbm hbq
          generalize (w2.alloc (.cells #[.int .i64 mw, .slice mo mp.length mc, .int .i64 ms] 76)).alloc (.cells #[.slice none 0 0, .int .i64 ms, .slice none 0 0] 30) = w4 at HB4 HR4 HQ4 HM4 HMO4 HS4 ⊢
          have hmw : mw = words := by rw [HMW.out]; exact if_pos HME.out.symm
          rw [hmw] at HQ4 ⊢
          have HPM := hidI (show Planned words ms mp ∧ mp.length = ts.length from by rw [HMS.out, HMP.out]; exact HPL.out)
          clear hmw HMC
          have h4' : ts.length ≤ 4 := by have := H4.out; omega
          go_loopw [47, 11] (fun i cv wr => ∃ (j : Nat) (cs : List (Nat × List OpD)) (co : Option Addr) (cc : Nat), j ≤ ts.length ∧ i = .int .i64 (j : Int) ∧ cv = .int .i64 (lenSum cs : Int) ∧ Hid (cs.length = j) ∧ Hid (lenSum cs ≤ 262144) ∧ Hid (wr.heap[bm]? = some (.cells #[.slice co j cc, .int .i64 ms, .slice none 0 0] 30 (0, 0))) ∧ Hid (wr.ownsRow (bm + 1) 79 1 (.slice co j cc) j (cs.map codeV1)) ∧ Hid (CodesIn wr (bm + 1) cs) ∧ Hid (CodesAre words ts.length (ts.take j) cs) ∧ Hid (∀ t ∈ ts.take j, okRows words t.2 = true) ∧
            Hid (wr.heap[bq]? = some (.cells #[.int .i64 words, .slice mo mp.length mc, .int .i64 ms] 76 (0, 0))) ∧ Hid (wr.heap[br]? = some (.cells #[.slice none 0 0, .int .i64 0, .slice none 0 0] 30 (0, 0))) ∧ Hid (Below w.heap.size w wr) ∧ Hid (wr.ownsRow 0 113 5 (.slice mo mp.length mc) mp.length (mp.flatMap encP)) ∧ Hid (bm + 1 ≤ wr.heap.size)) (fun i _ _ => ((ts.length : Int) - intOf i).toNat)
          case atStart => exact ⟨0, [], none, 0, Nat.zero_le _, rfl, rfl, hidI rfl, hidI (by simp [lenSum]), HM4, hidI (World.ownsRow_nil _ _ _ _), hidI ⟨fun p hp => (by cases hp), List.nodup_nil⟩, hidI ⟨by simp, fun i p t hp => by simp at hp⟩, hidI (fun t ht => by simp at ht), HQ4, HR4, HB4, HMO4, hidI (by have := HS4.out; have := HBQ.out; omega)⟩
          case round =>
            obtain ⟨j, cs, co, cc, hj, rfl, rfl, HCL, HSUM, HM, HO, HCI, HCA, HOK, HQ, HR9, HB9, HPR, HSZ⟩ := hrel
            clear HM4 HQ4 HR4 HB4 HMO4
            have h4' : ts.length ≤ 4 := by have := H4.out; omega
            by_cases hlt : j < ts.length
            · obtain ⟨⟨tv, rows⟩, hx⟩ := some_at hlt
              obtain ⟨g9, off9, rfl, hg9, hc⟩ := RdT.at encR2_len (Rd.below H.out.rows HB9.out) hx
              have d0 := hc 0 _ rfl
              simp only [Nat.mul_one, Nat.add_zero] at d0
              have hE := (H.out.each _ (List.mem_of_getElem? hx)).below HB9.out
              obtain ⟨ro, rc, hrv⟩ := Rd.shape hE.rows
              simp only at hrv
              subst hrv
              have HE := hidI hE
              have HTOT := hidI (show txTotal rows ≤ 262144 from H.out.tot _ (List.mem_of_getElem? hx))
              have HX := hidI hx
              have HTK := hidI (take_snoc hx)
              have q0 : wr.cell? ⟨bq, 0, none⟩ = some (.int .i64 words) := cell_of_block HQ.out rfl
              have q1 : wr.cell? ⟨bq, 1, none⟩ = some (.slice mo mp.length mc) := cell_of_block HQ.out rfl
              have q2 : wr.cell? ⟨bq, 2, none⟩ = some (.int .i64 ms) := cell_of_block HQ.out rfl
              have hw1 : IntKind.i64.wrap ((j : Int) + 1) = j + 1 := IntWalk.i64_in _ (by omega)
              clear hx hc hE
              go_wp2_with fail
              refine (straight_any (ps := mp) (rs := rows) (Rd.of_own HPR.out) HE.out (by have := HPM.out.2; omega) HTOT.out words ms (j : Int)).mono ?_
              rintro e w5 ⟨hb5, hpost⟩
              have HB5 := hidI (HB9.out.trans (hb5.mono HB9.out.size))
              have HPR5 := hidI (ownsRow_chg HPR.out (Chg.of_below (S := fun _ => False) hb5) (fun _ _ e => e))
              have HR5 := hidI (blk hb5 HR9.out)
              have HQ5 := hidI (blk hb5 HQ.out)
              have HM5 := hidI (blk hb5 HM.out)
              have HO5 := hidI (ownsRow_chg HO.out (Chg.of_below (S := fun _ => False) hb5) (fun _ _ e => e))
              have HCI5 := hidI (HCI.out.below hb5)
              have HSZ5 := hidI (Nat.le_trans HSZ.out hb5.size)
              have HWS := hidI hb5.size
              clear hb5 d0 q0 q1 q2
              rcases hpost with ⟨rfl, hno⟩ | ⟨k, p, hk, hp, hpd, hok, hpost⟩
              · have HNO := hidI (show okRows words rows = false from by
                  cases hq : okRows words rows with
                  | false => rfl
                  | true => exact absurd ⟨HPM.out.1, by omega, by have := HPM.out.2; omega, hq⟩ hno)
                clear hno
                have r0 : w5.cell? ⟨br, 0, none⟩ = some (.slice none 0 0) := cell_of_block HR5.out rfl
                have r1 : w5.cell? ⟨br, 1, none⟩ = some (.int .i64 0) := cell_of_block HR5.out rfl
                have r2 : w5.cell? ⟨br, 2, none⟩ = some (.slice none 0 0) := cell_of_block HR5.out rfl
                have rf0 : w5.frozen? ⟨br, 0, none⟩ = false := free_of_block HR5.out
                have rf1 : w5.frozen? ⟨br, 1, none⟩ = false := free_of_block HR5.out
                have rf2 : w5.frozen? ⟨br, 2, none⟩ = false := free_of_block HR5.out
                go_wp2_with fail
                have HBE := hidI (show Below w.heap.size w (((w5.setCell ⟨br, 0, none⟩ (.slice none 0 0)).setCell ⟨br, 1, none⟩ (.int .i64 0)).setCell ⟨br, 2, none⟩ (.slice none 0 0)) from ((HB5.out.setCell (p := ⟨br, 0, none⟩) (Nat.le_of_eq HBR.out.symm) _).setCell (p := ⟨br, 1, none⟩) (Nat.le_of_eq HBR.out.symm) _).setCell (p := ⟨br, 2, none⟩) (Nat.le_of_eq HBR.out.symm) _)
                have hfin := block_setCell (o := 2) (.slice none 0 0) (block_setCell (o := 1) (.int .i64 0) (block_setCell (o := 0) (.slice none 0 0) HR5.out))
                generalize (((w5.setCell ⟨br, 0, none⟩ (.slice none 0 0)).setCell ⟨br, 1, none⟩ (.int .i64 0)).setCell ⟨br, 2, none⟩ (.slice none 0 0)) = w9 at HBE hfin ⊢
                have k0 : w9.cell? ⟨br, 0, none⟩ = some (.slice none 0 0) := cell_of_block hfin rfl
                have k1 : w9.cell? ⟨br, 1, none⟩ = some (.int .i64 0) := cell_of_block hfin rfl
                have k2 : w9.cell? ⟨br, 2, none⟩ = some (.slice none 0 0) := cell_of_block hfin rfl
                clear hfin r0 r1 r2 rf0 rf1 rf2
                refine bodyPost_ret (v := .tuple #[.agg #[.slice none 0 0, .int .i64 0, .slice none 0 0], .int .i64 1]) (by simp [results, Tryz.results7, go_sem, k0, k1, k2]) rfl ?_
                exact ⟨⟨HBE.out, .inl ⟨1, rfl, .inl ⟨rfl, .inr ⟨_, List.mem_of_getElem? HX.out, HNO.out⟩⟩⟩⟩, fun v en h9 => .inr (by cases h9; exact .inr (.inr ⟨by have := H4.out; omega, HME.out.symm, j, cs, _, HX.out, HCA.out, HSUM.out, HOK.out, .inl ⟨rfl, HNO.out⟩⟩))⟩
              · obtain rfl : k = j := by omega
                have htx : txOf words ms p k = imgTx words ts.length k := by
                  unfold imgTx imgSize imgPs
                  rw [← HMP.out, ← HMS.out, List.getD_eq_getElem?_getD, hp]
                  rfl
                rw [htx] at hpost
                have HOK5 := hidI hok
                clear hk hp hpd htx hok
                rcases hpost with ⟨rfl, jj, hjj, hov⟩ | ⟨g, rfl, hg, hge, hov, hfew⟩
                · have HOV := hidI (show Fail3 words ts from .inr (.inr (.inl ⟨k, _, jj, HX.out, hjj, hov⟩)))
                  have HJJ := hidI (And.intro hjj hov)
                  clear hjj hov
                  have r0 : w5.cell? ⟨br, 0, none⟩ = some (.slice none 0 0) := cell_of_block HR5.out rfl
                  have r1 : w5.cell? ⟨br, 1, none⟩ = some (.int .i64 0) := cell_of_block HR5.out rfl
                  have r2 : w5.cell? ⟨br, 2, none⟩ = some (.slice none 0 0) := cell_of_block HR5.out rfl
                  have rf0 : w5.frozen? ⟨br, 0, none⟩ = false := free_of_block HR5.out
                  have rf1 : w5.frozen? ⟨br, 1, none⟩ = false := free_of_block HR5.out
                  have rf2 : w5.frozen? ⟨br, 2, none⟩ = false := free_of_block HR5.out
                  go_wp2_with fail
                  have HBE := hidI (show Below w.heap.size w (((w5.setCell ⟨br, 0, none⟩ (.slice none 0 0)).setCell ⟨br, 1, none⟩ (.int .i64 0)).setCell ⟨br, 2, none⟩ (.slice none 0 0)) from ((HB5.out.setCell (p := ⟨br, 0, none⟩) (Nat.le_of_eq HBR.out.symm) _).setCell (p := ⟨br, 1, none⟩) (Nat.le_of_eq HBR.out.symm) _).setCell (p := ⟨br, 2, none⟩) (Nat.le_of_eq HBR.out.symm) _)
                  have hfin := block_setCell (o := 2) (.slice none 0 0) (block_setCell (o := 1) (.int .i64 0) (block_setCell (o := 0) (.slice none 0 0) HR5.out))
                  generalize (((w5.setCell ⟨br, 0, none⟩ (.slice none 0 0)).setCell ⟨br, 1, none⟩ (.int .i64 0)).setCell ⟨br, 2, none⟩ (.slice none 0 0)) = w9 at HBE hfin ⊢
                  have k0 : w9.cell? ⟨br, 0, none⟩ = some (.slice none 0 0) := cell_of_block hfin rfl
                  have k1 : w9.cell? ⟨br, 1, none⟩ = some (.int .i64 0) := cell_of_block hfin rfl
                  have k2 : w9.cell? ⟨br, 2, none⟩ = some (.slice none 0 0) := cell_of_block hfin rfl
                  clear hfin r0 r1 r2 rf0 rf1 rf2
                  refine bodyPost_ret (v := .tuple #[.agg #[.slice none 0 0, .int .i64 0, .slice none 0 0], .int .i64 3]) (by simp [results, Tryz.results7, go_sem, k0, k1, k2]) rfl ?_
                  exact ⟨⟨HBE.out, .inl ⟨3, rfl, .inr ⟨rfl, HOV.out⟩⟩⟩, fun v en h9 => .inr (by cases h9; exact .inr (.inr ⟨by have := H4.out; omega, HME.out.symm, k, cs, _, HX.out, HCA.out, HSUM.out, HOK.out, .inr ⟨rfl, HOK5.out, .inl ⟨jj, HJJ.out.1, HJJ.out.2⟩⟩⟩))⟩
                · obtain ⟨D, hD⟩ : ∃ D, D = (rowsCd (imgTx words ts.length k) (rows.map Prod.snd)).halt.done := ⟨_, rfl⟩
                  have hDl : D.length = (rowsCd (imgTx words ts.length k) (rows.map Prod.snd)).halt.ops.length := by rw [hD, done_len]
                  rw [← hD] at hg
                  rw [← hDl] at hfew ⊢
                  have HCA5 := hidI (HCA.out.snoc (p := (g, D)) HX.out ⟨hD, hov⟩)
                  have HOK6 := hidI (show ∀ t ∈ ts.take (k + 1), okRows words t.2 = true from fun t ht => by
                    rw [HTK.out] at ht
                    rcases List.mem_append.1 ht with ht | ht
                    · exact HOK.out t ht
                    · simp at ht; subst ht; exact HOK5.out)
                  have HLS := hidI (show lenSum (cs ++ [(g, D)]) = lenSum cs + D.length from by unfold lenSum; rw [List.map_append, List.sum_append]; simp)
                  have HCI6 := hidI (show CodesIn w5 (bm + 1) (cs ++ [(g, D)]) from ⟨fun p hp => by
                    rcases List.mem_append.1 hp with hp | hp
                    · exact HCI5.out.blk p hp
                    · simp at hp; subst hp; exact ⟨hg, Nat.le_trans HSZ.out hge⟩, by
                    rw [List.map_append, List.nodup_append]
                    refine ⟨HCI5.out.inj, by simp, fun a ha b hb => ?_⟩
                    simp at hb
                    subst hb
                    obtain ⟨p, hp, rfl⟩ := List.mem_map.1 ha
                    have h1 := lt_of_block (HCI.out.blk p hp).1
                    omega⟩)
                  have HFEW := hidI hfew
                  have hsum := HSUM.out
                  have e2 : IntKind.i64.wrap ((lenSum cs : Int) + (D.length : Int)) = (lenSum cs : Int) + (D.length : Int) := IntWalk.i64_in _ (by omega)
                  have HOV0 := hidI hov
                  have HDD := hidI hD
                  clear hD hDl hg hge hov
                  by_cases hbig : 262144 < lenSum cs + D.length
                  · have hd : (lenSum cs : Int) + (D.length : Int) > 262144 := by omega
                    have HOV := hidI (show Fail3 words ts from .inr (.inr (.inr ⟨k + 1, _, by omega, HCA5.out, by rw [HLS.out]; exact hbig⟩)))
                    have HBG := hidI hbig
                    clear hbig hsum hfew
                    have r0 : w5.cell? ⟨br, 0, none⟩ = some (.slice none 0 0) := cell_of_block HR5.out rfl
                    have r1 : w5.cell? ⟨br, 1, none⟩ = some (.int .i64 0) := cell_of_block HR5.out rfl
                    have r2 : w5.cell? ⟨br, 2, none⟩ = some (.slice none 0 0) := cell_of_block HR5.out rfl
                    have rf0 : w5.frozen? ⟨br, 0, none⟩ = false := free_of_block HR5.out
                    have rf1 : w5.frozen? ⟨br, 1, none⟩ = false := free_of_block HR5.out
                    have rf2 : w5.frozen? ⟨br, 2, none⟩ = false := free_of_block HR5.out
                    go_wp2_with fail
                    have HBE := hidI (show Below w.heap.size w (((w5.setCell ⟨br, 0, none⟩ (.slice none 0 0)).setCell ⟨br, 1, none⟩ (.int .i64 0)).setCell ⟨br, 2, none⟩ (.slice none 0 0)) from ((HB5.out.setCell (p := ⟨br, 0, none⟩) (Nat.le_of_eq HBR.out.symm) _).setCell (p := ⟨br, 1, none⟩) (Nat.le_of_eq HBR.out.symm) _).setCell (p := ⟨br, 2, none⟩) (Nat.le_of_eq HBR.out.symm) _)
                    have hfin := block_setCell (o := 2) (.slice none 0 0) (block_setCell (o := 1) (.int .i64 0) (block_setCell (o := 0) (.slice none 0 0) HR5.out))
                    generalize (((w5.setCell ⟨br, 0, none⟩ (.slice none 0 0)).setCell ⟨br, 1, none⟩ (.int .i64 0)).setCell ⟨br, 2, none⟩ (.slice none 0 0)) = w9 at HBE hfin ⊢
                    have k0 : w9.cell? ⟨br, 0, none⟩ = some (.slice none 0 0) := cell_of_block hfin rfl
                    have k1 : w9.cell? ⟨br, 1, none⟩ = some (.int .i64 0) := cell_of_block hfin rfl
                    have k2 : w9.cell? ⟨br, 2, none⟩ = some (.slice none 0 0) := cell_of_block hfin rfl
                    clear hfin r0 r1 r2 rf0 rf1 rf2
                    refine bodyPost_ret (v := .tuple #[.agg #[.slice none 0 0, .int .i64 0, .slice none 0 0], .int .i64 3]) (by simp [results, Tryz.results7, go_sem, k0, k1, k2]) rfl ?_
                    exact ⟨⟨HBE.out, .inl ⟨3, rfl, .inr ⟨rfl, HOV.out⟩⟩⟩, fun v en h9 => .inr (by cases h9; exact .inr (.inr ⟨by have := H4.out; omega, HME.out.symm, k, cs, _, HX.out, HCA.out, HSUM.out, HOK.out, .inr ⟨rfl, HOK5.out, .inr ⟨HOV0.out, by have h8 := HBG.out; rw [HDD.out] at h8; exact h8⟩⟩⟩))⟩
                  · have hd : ¬ ((lenSum cs : Int) + (D.length : Int) > 262144) := by omega
                    have HBIG := hidI hbig
                    clear hbig hsum hfew
                    have m0 : w5.cell? ⟨bm, 0, none⟩ = some (.slice co k cc) := cell_of_block HM5.out rfl
                    obtain ⟨i1, hi, hz0, hz1, hz2⟩ := info_parts emCodeInfo
                    go_wp2_with (at_builtin; refine Hid.out ?_)
                    refine wpList_append_d _ rfl _ _ 27 rfl (bm + 1) 79 i1 _ 1 24 Tryz.underlying27 hi hz0 hz1 hz2 rfl (by decide) (.slice co k cc) k _ (by simp [Act.eval]) (ownsRow_chg HO5.out ((Chg.refl (fun _ => False) w5).alloc _) (fun _ _ => id)) ⟨w5.heap.size, 0, none⟩ 1 1 [codeV1 (g, D)] (by simp [Act.eval]) rfl ?c1 ?c2 ?c3 ?c4 ?c5 ?_
                    case c1 => exact news_at (block_new _ _)
                    case c2 => intro u hu; simp at hu; subst hu; rfl
                    case c3 => unfold maxLen; omega
                    case c4 => omega
                    case c5 => have := HSZ5.out; simp; omega
                    intro ao6 cp6 w6 hown hfrom hgrown
                    have hc6 : Chg (fun q => (Value.slice co k cc).ownBlock = some q) w5 w6 := ((Chg.refl (fun q => (Value.slice co k cc).ownBlock = some q) w5).alloc _).grown hgrown (fun q hq => .inl hq)
                    have hbq := HBQ.out
                    have hlow : ∀ q, (Value.slice co k cc).ownBlock = some q → bm + 1 ≤ q := fun q hq => (HO5.out.lt q hq).1
                    have hm6 := chgblk hc6 HM5.out (fun e => by have := hlow _ e; omega)
                    have hq6 := chgblk hc6 HQ5.out (fun e => by have := hlow _ e; omega)
                    have hr6 := chgblk hc6 HR5.out (fun e => by have := hlow _ e; omega)
                    have m1 : w6.cell? ⟨bm, 0, none⟩ = some (.slice co k cc) := cell_of_block hm6 rfl
                    have m2 : w6.frozen? ⟨bm, 0, none⟩ = false := free_of_block hm6
                    have hp6 := ownsRow_chg HPR5.out hc6 (fun q hq => rows_ne HPR5.out hq (ownsRow_mono HO5.out (Nat.zero_le _)) (by decide))
                    have hcb : Chg (fun q => q = bm) w6 (w6.setCell ⟨bm, 0, none⟩ (.slice ao6 (k + 1) cp6)) := (Chg.refl (fun q => q = bm) w6).setCell (p := ⟨bm, 0, none⟩) (.inl rfl) _
                    have HM7 := hidI (block_setCell (o := 0) (.slice ao6 (k + 1) cp6) hm6)
                    have HQ7 := hidI (chgblk hcb hq6 (by omega))
                    have HR7 := hidI (chgblk hcb hr6 (by omega))
                    have HP7 := hidI (ownsRow_chg hp6 hcb (fun q hq => row_ne hp6 hq hm6 (by decide)))
                    have HO7 := hidI (show (w6.setCell ⟨bm, 0, none⟩ (.slice ao6 (k + 1) cp6)).ownsRow (bm + 1) 79 1 (.slice ao6 (k + 1) cp6) (k + 1) ((cs ++ [(g, D)]).map codeV1) from by
                      rw [List.map_append]
                      exact ownsRow_chg hown hcb (fun q hq e => by have := (hown.lt q hq).1; omega))
                    have HCI7 := hidI (show CodesIn (w6.setCell ⟨bm, 0, none⟩ (.slice ao6 (k + 1) cp6)) (bm + 1) (cs ++ [(g, D)]) from ⟨fun p hp => by
                      obtain ⟨h1, h2⟩ := HCI6.out.blk p hp
                      refine ⟨chgblk hcb (chgblk hc6 h1 (fun e => row_ne HO5.out e h1 (by decide) rfl)) (by omega), h2⟩, HCI6.out.inj⟩)
                    have HB7 := hidI (show Below w.heap.size w (w6.setCell ⟨bm, 0, none⟩ (.slice ao6 (k + 1) cp6)) from (hc6.below HB5.out HB5.out.size (fun q hq => by have := hlow q hq; omega)).setCell (p := ⟨bm, 0, none⟩) (by show w.heap.size ≤ bm; omega) _)
                    have HSZ7 := hidI (show bm + 1 ≤ (w6.setCell ⟨bm, 0, none⟩ (.slice ao6 (k + 1) cp6)).heap.size from Nat.le_trans HSZ5.out (Nat.le_trans hc6.size hcb.size))
                    have HLEN7 := hidI (show (cs ++ [(g, D)]).length = k + 1 from by rw [List.length_append, HCL.out]; rfl)
                    have HSUM7 := hidI (show lenSum (cs ++ [(g, D)]) ≤ 262144 from by rw [HLS.out]; have := HBIG.out; omega)
                    have hw1 : IntKind.i64.wrap ((k : Int) + 1) = k + 1 := IntWalk.i64_in _ (by omega)
                    clear hown hfrom hgrown hc6 hm6 hq6 hr6 hp6 hcb hlow hbq m0 hi hz0 hz1 hz2
                    go_wp2_with fail
                    exact ⟨⟨k + 1, _, ao6, cp6, by omega, by go_num, by rw [HLS.out]; rfl, HLEN7, HSUM7, HM7, HO7, HCI7, HCA5, HOK6, HQ7, HR7, HB7, HP7, HSZ7⟩, by simp [intOf]; omega⟩
            · obtain rfl : j = ts.length := by omega
              have hbq := HBQ.out
              have hm := HM.out
              have m0 : wr.cell? ⟨bm, 0, none⟩ = some (.slice co ts.length cc) := cell_of_block hm rfl
              have m1 : wr.cell? ⟨bm, 1, none⟩ = some (.int .i64 ms) := cell_of_block hm rfl
              have m2 : wr.cell? ⟨bm, 2, none⟩ = some (.slice none 0 0) := cell_of_block hm rfl
              have HALL := hidI (show ∀ t ∈ ts, okRows words t.2 = true from fun t ht => HOK.out t (by rw [List.take_length]; exact ht))
              have HCA9 := hidI (show CodesAre words ts.length ts cs from by have h9 := HCA.out; rw [List.take_length] at h9; exact h9)
              clear hm hbq
              have r0 : wr.cell? ⟨br, 0, none⟩ = some (.slice none 0 0) := cell_of_block HR9.out rfl
              have r1 : wr.cell? ⟨br, 1, none⟩ = some (.int .i64 0) := cell_of_block HR9.out rfl
              have r2 : wr.cell? ⟨br, 2, none⟩ = some (.slice none 0 0) := cell_of_block HR9.out rfl
              have rf0 : wr.frozen? ⟨br, 0, none⟩ = false := free_of_block HR9.out
              have rf1 : wr.frozen? ⟨br, 1, none⟩ = false := free_of_block HR9.out
              have rf2 : wr.frozen? ⟨br, 2, none⟩ = false := free_of_block HR9.out
              go_wp2_with fail
              have HBE := hidI (show Below w.heap.size w (((wr.setCell ⟨br, 0, none⟩ (.slice co ts.length cc)).setCell ⟨br, 1, none⟩ (.int .i64 ms)).setCell ⟨br, 2, none⟩ (.slice none 0 0)) from ((HB9.out.setCell (p := ⟨br, 0, none⟩) (Nat.le_of_eq HBR.out.symm) _).setCell (p := ⟨br, 1, none⟩) (Nat.le_of_eq HBR.out.symm) _).setCell (p := ⟨br, 2, none⟩) (Nat.le_of_eq HBR.out.symm) _)
              have hfin := block_setCell (o := 2) (.slice none 0 0) (block_setCell (o := 1) (.int .i64 ms) (block_setCell (o := 0) (.slice co ts.length cc) HR9.out))
              have hcb9 : Chg (fun q => q = br) wr (((wr.setCell ⟨br, 0, none⟩ (.slice co ts.length cc)).setCell ⟨br, 1, none⟩ (.int .i64 ms)).setCell ⟨br, 2, none⟩ (.slice none 0 0)) := (((Chg.refl (fun q => q = br) wr).setCell (p := ⟨br, 0, none⟩) (.inl rfl) _).setCell (p := ⟨br, 1, none⟩) (.inl rfl) _).setCell (p := ⟨br, 2, none⟩) (.inl rfl) _
              have HO9 := hidI (ownsRow_chg HO.out hcb9 (fun q hq e => by have := (HO.out.lt q hq).1; have := HBQ.out; omega))
              have HC9 := hidI (show ∀ p ∈ cs, ((((wr.setCell ⟨br, 0, none⟩ (.slice co ts.length cc)).setCell ⟨br, 1, none⟩ (.int .i64 ms)).setCell ⟨br, 2, none⟩ (.slice none 0 0))).heap[p.1]? = some (.cells (p.2.flatMap encOp).toArray 101 (0, 0)) ∧ bm + 1 ≤ p.1 from fun p hp => ⟨chgblk hcb9 (HCI.out.blk p hp).1 (by have := (HCI.out.blk p hp).2; have := HBQ.out; omega), (HCI.out.blk p hp).2⟩)
              clear hcb9
              generalize (((wr.setCell ⟨br, 0, none⟩ (.slice co ts.length cc)).setCell ⟨br, 1, none⟩ (.int .i64 ms)).setCell ⟨br, 2, none⟩ (.slice none 0 0)) = w9 at HBE hfin HO9 HC9 ⊢
              have k0 : w9.cell? ⟨br, 0, none⟩ = some (.slice co ts.length cc) := cell_of_block hfin rfl
              have k1 : w9.cell? ⟨br, 1, none⟩ = some (.int .i64 ms) := cell_of_block hfin rfl
              have k2 : w9.cell? ⟨br, 2, none⟩ = some (.slice none 0 0) := cell_of_block hfin rfl
              clear hfin r0 r1 r2 rf0 rf1 rf2
              refine bodyPost_ret (v := .tuple #[.agg #[.slice co ts.length cc, .int .i64 ms, .slice none 0 0], .int .i64 0]) (by simp [results, Tryz.results7, go_sem, k0, k1, k2]) rfl ?_
              refine ⟨⟨HBE.out, .inr ⟨co, cc, cs, ?_, ?_, ?_, HCA9.out, HSUM.out, HME.out.symm, by have := H4.out; omega, HALL.out⟩⟩, fun v en h9 => .inl (by cases h9; rfl)⟩
              · rw [HCL.out, HMS.out]; rfl
              · rw [HCL.out]; exact ownsRow_mono HO9.out (by have := HBQ.out; omega)
              · exact ⟨fun p hp => ⟨(HC9.out p hp).1, by have := (HC9.out p hp).2; have := HBQ.out; omega⟩, HCI.out.inj⟩
        · have hd : (me != 0) = true := by simpa using he
          have HE := hidI he
          have HB3 := hidI (HB2.out.alloc HB2.out.size (.cells #[.int .i64 mw, .slice mo mp.length mc, .int .i64 ms] 76))
          have HR3 := hidI (block_alloc (o := (.cells #[.int .i64 mw, .slice mo mp.length mc, .int .i64 ms] 76)) HR2.out)
          clear he
          go_upto_region 10 with fail
          generalize w2.alloc (.cells #[.int .i64 mw, .slice mo mp.length mc, .int .i64 ms] 76) = w3 at HB3 HR3 ⊢
          have r0 : w3.cell? ⟨br, 0, none⟩ = some (.slice none 0 0) := cell_of_block HR3.out rfl
          have r1 : w3.cell? ⟨br, 1, none⟩ = some (.int .i64 0) := cell_of_block HR3.out rfl
          have r2 : w3.cell? ⟨br, 2, none⟩ = some (.slice none 0 0) := cell_of_block HR3.out rfl
          have rf0 : w3.frozen? ⟨br, 0, none⟩ = false := free_of_block HR3.out
          have rf1 : w3.frozen? ⟨br, 1, none⟩ = false := free_of_block HR3.out
          have rf2 : w3.frozen? ⟨br, 2, none⟩ = false := free_of_block HR3.out
          go_wp2_with fail
          have HBE := hidI (show Below w.heap.size w (((w3.setCell ⟨br, 0, none⟩ (.slice none 0 0)).setCell ⟨br, 1, none⟩ (.int .i64 0)).setCell ⟨br, 2, none⟩ (.slice none 0 0)) from ((HB3.out.setCell (p := ⟨br, 0, none⟩) (Nat.le_of_eq HBR.out.symm) _).setCell (p := ⟨br, 1, none⟩) (Nat.le_of_eq HBR.out.symm) _).setCell (p := ⟨br, 2, none⟩) (Nat.le_of_eq HBR.out.symm) _)
          have hfin := block_setCell (o := 2) (.slice none 0 0) (block_setCell (o := 1) (.int .i64 0) (block_setCell (o := 0) (.slice none 0 0) HR3.out))
          generalize (((w3.setCell ⟨br, 0, none⟩ (.slice none 0 0)).setCell ⟨br, 1, none⟩ (.int .i64 0)).setCell ⟨br, 2, none⟩ (.slice none 0 0)) = w4 at HBE hfin ⊢
          have k0 : w4.cell? ⟨br, 0, none⟩ = some (.slice none 0 0) := cell_of_block hfin rfl
          have k1 : w4.cell? ⟨br, 1, none⟩ = some (.int .i64 0) := cell_of_block hfin rfl
          have k2 : w4.cell? ⟨br, 2, none⟩ = some (.slice none 0 0) := cell_of_block hfin rfl
          clear hfin r0 r1 r2 rf0 rf1 rf2
          refine bodyPost_ret (v := .tuple #[.agg #[.slice none 0 0, .int .i64 0, .slice none 0 0], .int .i64 me]) (by simp [results, Tryz.results7, go_sem, k0, k1, k2]) rfl ?_
          refine ⟨⟨HBE.out, .inl ⟨me, rfl, ?_⟩⟩, fun v en h9 => .inr (by cases h9; exact .inr (.inl ⟨by have := H4.out; omega, HME.out.symm, HE.out⟩))⟩
          rcases HMC.out with h9 | ⟨h9, h8⟩ | h9
          · exact absurd (by rw [HME.out]; exact h9) HE.out
          · exact .inl ⟨by rw [HME.out]; exact h9, .inl h8⟩
          · exact .inr ⟨by rw [HME.out]; exact h9, .inr (.inl h9)⟩
theorem image_any {ta : Option Addr} {tc : Nat} {ts : List (Value × List (Value × List Tx))} (h : ThsAt w (.slice ta ts.length tc) ts) (hl : ts.length ≤ 9000000000000) (words : Int) :
    Calls Tryz.prog 7 #[.int .i64 words, .slice ta ts.length tc] w (ImagePost words ts w) := (image2_any h hl words).mono fun _ _ h => h.1
end Go.Proofs.YtgodmogkhgilmaaGreatDoor

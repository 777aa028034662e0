/- Part of the proof: TsoR, TsoT, TsoU, TsoV, TsoW, TsoY, TsoEv, TsoZ, TsoU2, PlayD -/
import Derived.Test.YtgodmogkhgilmaaGreatDoorP31
import Derived.StillTailTactics
import Derived.Deep.RegionHeld3
import Derived.Laws.Rows
namespace Go.Proofs.YtgodmogkhgilmaaGreatDoor
open Go.RowKit
set_option linter.unusedVariables false
set_option linter.unusedSimpArgs false
set_option maxHeartbeats 2000000
set_option maxRecDepth 100000
section
variable {w w' : World}
def fillS (cs : List (Int × Int)) (m : List Int) : List Int := cs.foldl (fun m c => m.set c.1.toNat c.2) m
def newM (mem : Int) (codes : List (List OpD)) (cs : List (Int × Int)) : MM := ⟨fillS cs (List.replicate mem.toNat 0), codes.map MT.new, []⟩
def own0 (B mb : Nat) (k : Nat) : Nat := if k = B then 1 else if k = mb then 2 else 0
theorem MAt.start {w3 : World} {base B mb mn : Nat} (hB : w3.heap[B]? = some (.cells #[.bool true, .slice (some ⟨mb, 0, none⟩) mn mn, .slice none 0 0, .slice none 0 0] 355 (0, 0)))
    (hm : w3.heap[mb]? = some (.cells (List.replicate mn (encI 0)).flatten.toArray 2 (0, 0))) (hne : mb ≠ B) (h1 : base ≤ B) (h2 : base ≤ mb) (hmn : mn ≤ 262144) :
    MAt w3 base B (own0 B mb) ⟨List.replicate mn 0, [], []⟩ [] (.slice (some ⟨mb, 0, none⟩) mn mn) (.slice none 0 0) (.slice none 0 0) := by
  have e1 : (List.replicate mn (encI 0)).flatten = (List.replicate mn (0 : Int)).flatMap encI := by simp [List.flatMap]
  have e2 : ((List.replicate mn (0 : Int)).flatMap encI).length = mn := by rw [flat_len encI_len]; simp
  have hrow : w3.ownsRow base 2 1 (.slice (some ⟨mb, 0, none⟩) mn mn) mn ((List.replicate mn (0 : Int)).flatMap encI) := by
    refine ⟨by rw [e2, Nat.mul_one], .inr ⟨mb, mn, _, rfl, h2, hm, Nat.le_refl _, by unfold maxLen; omega, ?_, ?_⟩⟩
    · rw [e1]; simp only [List.size_toArray]; rw [e2, Nat.mul_one]
    · rw [e1, List.toList_toArray, List.take_of_length_le (by rw [e2]; simp)]
  have hown : own0 B mb B = 1 := by unfold own0; rw [if_pos rfl]
  have hlen : (List.replicate mn (0 : Int)).length = mn := by simp
  refine ⟨hB, ⟨h1, hown⟩, by rw [hlen]; exact hrow, fun g hg => ?_, World.ownsRow_nil _ _ _ _, (fun g hg => by cases hg), World.ownsRow_nil _ _ _ _, (fun g hg => by cases hg), rfl, (fun i x hx => by simp at hx), fun k hk => ?_⟩
  · simp only [Value.ownBlock, Option.some.injEq] at hg
    subst hg
    unfold own0
    rw [if_neg hne, if_pos rfl]
  · have l1 := lt_of_block hB
    have l2 := lt_of_block hm
    unfold own0
    rw [if_neg (by omega), if_neg (by omega)]
theorem fill_len (cs : List (Int × Int)) : ∀ m, (fillS cs m).length = m.length := by
  induction cs with
  | nil => exact fun m => rfl
  | cons c r ih => intro m; show (fillS r (m.set c.1.toNat c.2)).length = _; rw [ih]; simp
theorem fill_step {cs : List (Int × Int)} {k : Nat} {c : Int × Int} (h : cs[k]? = some c) (m : List Int) : fillS (cs.take (k + 1)) m = (fillS (cs.take k) m).set c.1.toNat c.2 := by
  unfold fillS
  rw [List.take_add_one, h, List.foldl_append]
  rfl
theorem cells_each {mem : Int} : ∀ {cs : List (Int × Int)} {last : Int}, -1 ≤ last → cellsOk mem last cs = true → ∀ c ∈ cs, 0 ≤ c.1 ∧ c.1 < mem := by
  intro cs
  induction cs with
  | nil => exact fun _ _ c hc => absurd hc (by simp)
  | cons d r ih =>
    intro last hl h c hc
    simp only [cellsOk, Bool.and_eq_true, decide_eq_true_eq] at h
    rcases List.mem_cons.1 hc with rfl | e
    · omega
    · exact ih (last := d.1) (by omega) h.2 c e
theorem own_apart1 {own : Nat → Nat} {p : Nat} (h3 : own p = 3) (h1 : own p = 1) : False := by rw [h3] at h1; cases h1
def NewPost (mem : Int) (l : List (Value × List OpD)) (cs : List (Int × Int)) (w : World) (r : Ending) (w' : World) : Prop :=
  ∃ b own xs mv tv, r = .returned (.tuple #[.pointer (some ⟨b, 0, none⟩), .int .i64 0]) ∧ MAt w' w.heap.size b own (newM mem (l.map (·.2)) cs) xs mv tv (.slice none 0 0) ∧ Below w.heap.size w w'
theorem mem_of_check {mem : Int} {l : List (Value × List OpD)} {cs : List (Int × Int)} (h : checkM mem l cs = 0) : 1 ≤ mem ∧ mem ≤ 262144 := by
  unfold checkM at h
  split at h
  · cases h
  split at h
  · cases h
  rename_i h1 h2
  omega
theorem len_of_check {mem : Int} {l : List (Value × List OpD)} {cs : List (Int × Int)} (h : checkM mem l cs = 0) : l.length ≤ 4 ∧ countS l ≤ 262144 := by
  unfold checkM at h
  split at h
  · cases h
  rename_i h1
  omega
theorem ops_of_check {mem : Int} {l : List (Value × List OpD)} {cs : List (Int × Int)} (h : checkM mem l cs = 0) : (∀ p ∈ l, p.2.all checkS = true) ∧ cellsOk mem (-1) cs = true := by
  unfold checkM at h
  split at h
  · cases h
  split at h
  · cases h
  split at h
  · cases h
  split at h
  · cases h
  rename_i h3 h4
  exact ⟨List.all_eq_true.1 (by simpa using h3), by simpa using h4⟩
theorem new_yes {ca cca : Option Addr} {ccap ccca : Nat} {l : List (Value × List OpD)} {cs : List (Int × Int)} (h : CodeAt w (.slice ca l.length ccap) l) (hc : RdT encCell w 2 (.slice cca cs.length ccca) cs) (mem : Int) (hl : l.length ≤ 6000000000000) (hcl : cs.length ≤ 9000000000000) (hk : checkM mem l cs = 0) :
    Calls Tryz.prog 191 #[.agg #[.slice ca l.length ccap, .int .i64 mem, .slice cca cs.length ccca]] w (NewPost mem l cs w) := by
  have hb0 : Below w.heap.size w (w.alloc (.cells #[.slice ca l.length ccap, .int .i64 mem, .slice cca cs.length ccca] 30)) := (Below.refl _ _).alloc (Nat.le_refl _) _
  have hbox := block_new w (.cells #[.slice ca l.length ccap, .int .i64 mem, .slice cca cs.length ccca] 30)
  have H0 := hidI (h.below hb0)
  have HC0 := hidI (Rd.below hc hb0)
  have HB := hidI hb0
  have HC := hidI hc
  have H := hidI h
  have HL := hidI hl
  have HCL := hidI hcl
  have HE := hidI hk
  have HBX := hidI hbox
  clear h hc hl hcl hb0 hk hbox
  go_enter Tryz.func191, Tryz.ntmps191
  go_wp2_with fail
  refine (checkM_any H0.out HC0.out mem HL.out HCL.out).mono ?_
  rintro e w1 ⟨rfl, hb1⟩
  rw [HE.out]
  have hbx1 := (hb1.block w.heap.size (by simp)).trans HBX.out
  have d0 := cell_of_block (o := 0) hbx1 rfl
  have d1 := cell_of_block (o := 1) hbx1 rfl
  have d2 := cell_of_block (o := 2) hbx1 rfl
  have H1 := hidI (H0.out.below hb1)
  have HC1 := hidI (Rd.below HC0.out hb1)
  have HB1 := hidI (HB.out.trans (hb1.mono HB.out.size))
  clear hb1 hbx1 HB H0 HC0 HBX
  have hmem := mem_of_check HE.out
  obtain ⟨mn, rfl⟩ := Int.eq_ofNat_of_zero_le (show 0 ≤ mem by omega)
  have HMN := hidI hmem
  obtain ⟨i0, hi, hz0, hz1, hz2⟩ := info_parts i64Info2
  clear hmem
  go_wp2_with (at_make; refine wpList_make_s _ rfl _ _ 92 rfl 2 i0 _ 1 (encI 0) Tryz.underlying92 hi hz0 hz1 rfl rfl (by decide) _ _ _ _ mn mn rfl rfl rfl rfl ?b0 ?b1 ?b2 ?_)
  case b0 => exact Nat.le_refl _
  case b1 => have := HMN.out; rw [hz2]; omega
  case b2 => have := HMN.out; unfold maxLen; omega
  intro w2 hblk hsz2 hb2
  have hB3 := heap_alloc_new w2 (.cells #[.bool true, .slice (some ⟨w1.heap.size, 0, none⟩) mn mn, .slice none 0 0, .slice none 0 0] 355)
  have hm3 := (heap_alloc_old w2 (.cells #[.bool true, .slice (some ⟨w1.heap.size, 0, none⟩) mn mn, .slice none 0 0, .slice none 0 0] 355) (show w1.heap.size < w2.heap.size by omega)).trans hblk
  have hb3 : Below w1.heap.size w1 (w2.alloc (.cells #[.bool true, .slice (some ⟨w1.heap.size, 0, none⟩) mn mn, .slice none 0 0, .slice none 0 0] 355)) := hb2.alloc hb2.size _
  have q0 := (World.cell?_of_block (hb3.block _ (World.block_lt_of_cell? _ _ d0))).trans d0
  have q2 := (World.cell?_of_block (hb3.block _ (World.block_lt_of_cell? _ _ d2))).trans d2
  have HM3 := hidI (MAt.start (base := w.heap.size) hB3 hm3 (by omega) (by have := HB1.out.size; omega) HB1.out.size (by have := HMN.out; omega))
  have H3 := hidI (H1.out.below hb3)
  have HC3 := hidI (Rd.below HC1.out hb3)
  have HB3 := hidI (HB1.out.trans (hb3.mono HB1.out.size))
  have hw1 : w.heap.size + 1 ≤ w1.heap.size := World.block_lt_of_cell? _ _ d0
  have hwlt := World.block_lt_of_cell? _ _ q0
  have HSZ2 := hidI hsz2
  clear hblk hsz2 hb2 hB3 hm3 hb3 hi hz0 hz1 hz2 d0 d1 d2 H1 HC1 HB1
  go_wp2_with fail
  generalize (w2.alloc (Obj.cells #[.bool true, .slice (some ⟨w1.heap.size, 0, none⟩) mn mn, .slice none 0 0, .slice none 0 0] 355)) = w3 at HM3 q0 q2 H3 HC3 HB3 hwlt ⊢
  have hnb : w.heap.size ≠ w1.heap.size := by omega
  have HNB := hidI hnb
  have HW1 := hidI hw1
  have HMM := hidI (show MAt w3 w.heap.size w2.heap.size (own0 w2.heap.size w1.heap.size) ⟨fillS (cs.take 0) (List.replicate mn 0), [], []⟩ [] (.slice (some ⟨w1.heap.size, 0, none⟩) (fillS (cs.take 0) (List.replicate mn 0)).length mn) (.slice none 0 0) (.slice none 0 0) from by
    have e : (fillS (cs.take 0) (List.replicate mn 0)).length = mn := by rw [fill_len]; simp
    rw [e]; exact HM3.out)
  clear HM3 hnb hw1
  go_loopw [23] (fun i w' => ∃ k : Nat, k ≤ cs.length ∧ i = .int .i64 (k : Int) ∧ Hid (MAt w' w.heap.size w2.heap.size (own0 w2.heap.size w1.heap.size) ⟨fillS (cs.take k) (List.replicate mn 0), [], []⟩ [] (.slice (some ⟨w1.heap.size, 0, none⟩) (fillS (cs.take k) (List.replicate mn 0)).length mn) (.slice none 0 0) (.slice none 0 0) ∧ Chg (fun k => k = w1.heap.size) w3 w')) (fun i _ => ((cs.length : Int) - intOf i).toNat)
  case atStart => exact ⟨0, by omega, rfl, ⟨HMM.out, Chg.refl _ _⟩⟩
  case round =>
    obtain ⟨k, hk, rfl, HR⟩ := hrel
    have hlen : (fillS (cs.take k) (List.replicate mn 0)).length = mn := by rw [fill_len]; simp
    by_cases hlt : k < cs.length
    · have hp := List.getElem?_eq_getElem hlt
      generalize cs[k] = c at hp
      have hst := fill_step hp (List.replicate mn 0)
      have hcb := cells_each (by omega) (ops_of_check HE.out).2 c (List.mem_of_getElem? hp)
      obtain ⟨can, cv⟩ := c
      obtain ⟨an, rfl⟩ := Int.eq_ofNat_of_zero_le hcb.1
      have hwr : Below w.heap.size w wr := Chg.below HB3.out (Nat.le_of_lt hwlt) HR.out.2 (fun k e => by rw [e]; have := HW1.out; omega)
      obtain ⟨gb, co, e1, hgb, hcc⟩ := RdT.at encCell_len (Rd.below HC.out hwr) hp
      have i0 := hcc 0 _ rfl
      have i1 := hcc 1 _ rfl
      rw [Nat.add_zero] at i0
      subst e1
      clear hcc hgb hp
      obtain ⟨w5, hw5⟩ : ∃ w5, w5 = wr.alloc (.cells #[.int .i64 (an : Int), .int .i64 cv] 103) := ⟨_, rfl⟩
      have hb5 : Below wr.heap.size wr w5 := hw5 ▸ ((Below.refl _ _).alloc (Nat.le_refl _) _)
      have h5 := HR.out.1.below hb5
      have ham : an < (fillS (cs.take k) (List.replicate mn 0)).length := by rw [hlen]; omega
      have c1 := h5.wcell 1 _ rfl
      have cM := h5.mcell ham
      have fM := h5.mfree (by show 0 < (fillS (cs.take k) (List.replicate mn 0)).length; omega) an
      have k0 : w5.cell? ⟨wr.heap.size, 0, none⟩ = some (.int .i64 (an : Int)) := by rw [hw5]; exact cell_of_block (heap_alloc_new _ _) rfl
      have k1 : w5.cell? ⟨wr.heap.size, 1, none⟩ = some (.int .i64 cv) := by rw [hw5]; exact cell_of_block (heap_alloc_new _ _) rfl
      have hb6 : wr.heap.size < w5.heap.size := by rw [hw5]; simp
      have hamn : (an : Int) < (mn : Int) := by omega
      rw [hlen] at c1
      have H5 := hidI h5
      have HC5 := hidI (HR.out.2.trans (Chg.of_below hb5))
      have HW5 := hidI hw5
      have HST := hidI hst
      have hkc : (k : Int) < 9000000000000 := by have := HCL.out; omega
      clear h5 hb5 HR hwr hst hcb
      go_wp2_with fail
      rw [← HW5.out]
      clear HW5 hw5
      go_still_tail 8, (by kernel_rfl)
      go_wp2_with fail
      have h6 := H5.out.drew.word ham cv
      refine ⟨⟨k + 1, by omega, by go_num, ⟨?_, (HC5.out.drew).setCell (p := ⟨w1.heap.size, an, none⟩) (.inl rfl) _⟩⟩, by simp [intOf]; omega⟩
      rw [HST.out]
      simp only [Int.toNat_natCast, List.length_set]
      exact h6
    · obtain rfl : k = cs.length := by omega
      rw [List.take_length] at HR
      have q0r := (World.cell?_of_block (HR.out.2.block _ (World.block_lt_of_cell? _ _ q0) HNB.out)).trans q0
      have hwr : Below w.heap.size w wr := Chg.below HB3.out (Nat.le_of_lt hwlt) HR.out.2 (fun k e => by rw [e]; have := HW1.out; omega)
      have HWR := hidI hwr
      have hwl4 : w.heap.size < wr.heap.size := World.block_lt_of_cell? _ _ q0r
      have h4 : l.length ≤ 4 := (len_of_check HE.out).1
      clear q0 q2 hwr H3 HC3 HB3 HMM hwlt
      go_wp2_with fail
      clear hlen
      go_loopw [40] (fun i w' => ∃ k : Nat, k ≤ l.length ∧ i = .int .i64 (k : Int) ∧ Hid (∃ own xs tv, MAt w' w.heap.size w2.heap.size own ⟨fillS cs (List.replicate mn 0), ((l.take k).map (·.2)).map MT.new, []⟩ xs (.slice (some ⟨w1.heap.size, 0, none⟩) (fillS cs (List.replicate mn 0)).length mn) tv (.slice none 0 0) ∧ Below w.heap.size w w' ∧ w'.cell? ⟨w.heap.size, 0, none⟩ = some (.slice ca l.length ccap) ∧ own w.heap.size = 0)) (fun i _ => ((l.length : Int) - intOf i).toNat)
      case atStart => exact ⟨0, by omega, rfl, ⟨_, _, _, HR.out.1, HWR.out, q0r, by unfold own0; rw [if_neg (by have := HSZ2.out; have := HW1.out; omega), if_neg HNB.out]⟩⟩
      case round =>
        obtain ⟨k, hk, rfl, HR2⟩ := hrel
        obtain ⟨own, xs, tv, hm, hbw, hq, ho0⟩ := HR2.out
        clear HR2
        by_cases hlt : k < l.length
        · have hp := List.getElem?_eq_getElem hlt
          generalize l[k] = p at hp
          have hmp := List.mem_of_getElem? hp
          obtain ⟨gb, co, e1, hgb, hcc⟩ := RdT.at encC_len (H.out.below hbw).rows hp
          have i0 := hcc 0 _ rfl
          obtain ⟨ao, cap, hcv⟩ := (H.out.each p hmp).shape
          have hrow := (H.out.below hbw).each p hmp
          rw [hcv] at hrow
          rw [Nat.mul_one, Nat.add_zero, hcv] at i0
          have hle : p.2.length ≤ 1000000000 := by have := count_each (len_of_check HE.out).2 p hmp; omega
          have c2 := hm.wcell 2 _ rfl
          have HMX := hidI hm
          have HROW := hidI hrow
          have HLE := hidI hle
          have HP := hidI hp
          have HBW := hidI hbw
          have HQ := hidI hq
          have HO0 := hidI ho0
          subst e1
          clear hcc hcv hgb hrow hmp hp hm hbw hq hle ho0
          go_wp2_with fail
          have c2d : wr.drew.cell? ⟨w2.heap.size, 2, none⟩ = some tv := c2
          obtain ⟨i0, hi, hz0, hz1, hz2⟩ := info_parts thInfo2
          have hxl : xs.length ≤ 4 := by have := HMX.out.same; have h2 := congrArg List.length this; simp at h2; omega
          have hwrs : w.heap.size ≤ wr.heap.size := HBW.out.size
          go_region_law (first | (go_simp; go_at_call 224; (first | refine (clone_l (Rd.below HROW.out (HB7.out)) HLE.out).mono ?_ | refine (clone_l (w := wr.drew) HROW.out HLE.out).mono ?_); rintro e6 w6 ⟨aoc, cpc, rfl, hcv, hfr, hb6⟩; (first | have HB6 := hidI (HB7.out.trans (hb6.mono HB7.out.size)) | have HB6 := hidI (show Below wr.heap.size wr w6 from (Below.refl wr.heap.size wr).drew.trans hb6)); have c6 := (World.cell?_of_block (HB6.out.block _ (World.block_lt_of_cell? _ _ c2))).trans c2; have c6a := fun o => cell_allocU c6 o; have HCV := hidI hcv; have HFR := hidI hfr; have HB6L := hidI hb6; clear hcv hfr hb6; dsimp only) | (go_simp; go_at_call 225; refine (new_l _).mono ?_; rintro e7 w7 ⟨rb, c7, f7, rfl, hr7, hb7, hge⟩; (first | have HB7 := hidI (HB6.out.trans (hb7.mono HB6.out.size)) | have HB7 := hidI (show Below wr.heap.size wr w7 from (Below.refl wr.heap.size wr).drew.trans hb7)); have c7 := (World.cell?_of_block (HB7.out.block _ (World.block_lt_of_cell? _ _ c2))).trans c2; have c7a := fun o => cell_allocU c7 o; have HR7 := hidI hr7; have HGE := hidI hge; have HB7L := hidI hb7; clear hr7 hb7 hge; dsimp only) | (refine step_append_d (by rfl) (.tmp 48) (.tmp 53) 353 (by rfl) w.heap.size 361 i0 _ 13 136 Tryz.underlying353 hi hz0 hz1 hz2 rfl (by decide) tv xs.length (xs.flatMap encX) (by simp [Act.eval]) (by exact own_below HMX.out.ths ((Ready.codeFirst (w := wr) HB6.out.size HCV.out (fun g hg => HFR.out g hg) HB7L.out HR7.out HGE.out HB7.out).below.alloc (Ready.codeFirst (w := wr) HB6.out.size HCV.out (fun g hg => HFR.out g hg) HB7L.out HR7.out HGE.out HB7.out).below.size _)) ⟨w7.heap.size, 0, none⟩ 1 1 (by decide) (encX (newX p.2 (.slice aoc p.2.length cpc) rb)) (by simp [Act.eval]) rfl (by exact news_at (block_new w7 _)) (one_newX _ _ _ _ _) (by unfold maxLen; omega) (by omega) (by have := (Ready.codeFirst (w := wr) HB6.out.size HCV.out (fun g hg => HFR.out g hg) HB7L.out HR7.out HGE.out HB7.out).below.size; show w.heap.size ≤ (w7.alloc _).heap.size; rw [World.size_alloc]; omega) ?_; intro ao9 cp9 w9 h1 h2 h3; have HPU := hidI (HMX.out.pushed (Ready.codeFirst (w := wr) HB6.out.size HCV.out (fun g hg => HFR.out g hg) HB7L.out HR7.out HGE.out HB7.out) h1 h2 h3); have hb9 := chgblk (Chg.grown (S := fun k => tv.ownBlock = some k) ((Chg.of_below (Ready.codeFirst (w := wr) HB6.out.size HCV.out (fun g hg => HFR.out g hg) HB7L.out HR7.out HGE.out HB7.out).below).alloc _) h3 (fun k hk => .inl hk)) HMX.out.blk (fun hk => own_apart1 (HMX.out.thsT _ hk) HMX.out.bT.2); have s1 := cell_of_block (o := 2) hb9 rfl; have s2 := free_of_block (o := 2) hb9; have HB9 := hidI hb9; clear h1 h2 h3 hb9) | (refine step_append_d (by rfl) (.tmp 48) (.tmp 53) 353 (by rfl) w.heap.size 361 i0 _ 13 136 Tryz.underlying353 hi hz0 hz1 hz2 rfl (by decide) tv xs.length (xs.flatMap encX) (by simp [Act.eval]) (by exact own_below HMX.out.ths ((Ready.ringFirst (w := wr) HR7.out HGE.out HB7.out.size HCV.out HFR.out HB6L.out HB6.out).below.alloc (Ready.ringFirst (w := wr) HR7.out HGE.out HB7.out.size HCV.out HFR.out HB6L.out HB6.out).below.size _)) ⟨w6.heap.size, 0, none⟩ 1 1 (by decide) (encX (newX p.2 (.slice aoc p.2.length cpc) rb)) (by simp [Act.eval]) rfl (by exact news_at (block_new w6 _)) (one_newX _ _ _ _ _) (by unfold maxLen; omega) (by omega) (by have := (Ready.ringFirst (w := wr) HR7.out HGE.out HB7.out.size HCV.out HFR.out HB6L.out HB6.out).below.size; show w.heap.size ≤ (w6.alloc _).heap.size; rw [World.size_alloc]; omega) ?_; intro ao9 cp9 w9 h1 h2 h3; have HPU := hidI (HMX.out.pushed (Ready.ringFirst (w := wr) HR7.out HGE.out HB7.out.size HCV.out HFR.out HB6L.out HB6.out) h1 h2 h3); have hb9 := chgblk (Chg.grown (S := fun k => tv.ownBlock = some k) ((Chg.of_below (Ready.ringFirst (w := wr) HR7.out HGE.out HB7.out.size HCV.out HFR.out HB6L.out HB6.out).below).alloc _) h3 (fun k hk => .inl hk)) HMX.out.blk (fun hk => own_apart1 (HMX.out.thsT _ hk) HMX.out.bT.2); have s1 := cell_of_block (o := 2) hb9 rfl; have s2 := free_of_block (o := 2) hb9; have HB9 := hidI hb9; clear h1 h2 h3 hb9))
          all_goals go_wp2_with fail
          all_goals (
            have hB : w.heap.size < w2.heap.size := by have := HSZ2.out; have := HW1.out; omega
            have htv : ∀ g, tv.ownBlock = some g → w.heap.size ≤ g ∧ g ≠ w.heap.size := fun g hg => ⟨(rowLt HMX.out.ths hg).1, fun e => by have h1 := HMX.out.thsT g hg; rw [e, HO0.out] at h1; cases h1⟩
            refine ⟨⟨k + 1, by omega, by go_num, ⟨pushT own (.slice ao9 (xs.length + 1) cp9) (.slice aoc p.2.length cpc) p.2 rb xs.length wr.heap.size, xs ++ [newX p.2 (.slice aoc p.2.length cpc) rb], .slice ao9 (xs.length + 1) cp9, ?_, Chg.below HBW.out HBW.out.size HPU.out.2 (fun g hg => ?_), ?_, ?_⟩⟩, by simp [intOf]; omega⟩
            · have h9 := HPU.out.1
              rw [List.take_add_one, HP.out]
              simpa using h9
            · rcases hg with rfl | hg
              · omega
              · exact (htv g hg).1
            · refine (World.cell?_of_block (HPU.out.2.block _ (World.block_lt_of_cell? _ _ HQ.out) (fun e => ?_))).trans HQ.out
              rcases e with e | e
              · simp only at e; omega
              · exact (htv _ e).2 rfl
            · rw [pushT_old (World.block_lt_of_cell? _ _ HQ.out)]; exact HO0.out)
        · obtain rfl : k = l.length := by omega
          go_wp2_with fail
          go_ret2
          rw [List.take_length] at hm
          exact ⟨_, _, _, _, _, rfl, hm, hbw⟩
end
section
variable {w w' : World} {base b : Nat} {own own' : Nat → Nat} {mm : MM} {xs : List TX} {mv tv ev : Value}
def Gone (w : World) (p : Value) : Prop := p = .pointer none ∨ ∃ b, p = .pointer (some ⟨b, 0, none⟩) ∧ w.heap[b]? = some (.cells #[.bool false, .slice none 0 0, .slice none 0 0, .slice none 0 0] 355 (0, 0))
theorem Gone.below {p : Value} (h : Gone w p) (hb : Below w.heap.size w w') : Gone w' p := by
  rcases h with rfl | ⟨b, rfl, h⟩
  · exact .inl rfl
  · exact .inr ⟨b, rfl, (hb.block b (lt_of_block h)).trans h⟩
end
section
variable {w w' : World} {base b : Nat} {own own' : Nat → Nat} {mm : MM} {xs : List TX} {mv tv ev : Value}
structure SX where
  v : Value
  out : List Int
  fin : Int
def encS (s : SX) : List Value := [s.v, .int .u8 s.fin]
theorem encS_len : ∀ s, (encS s).length = 2 := fun _ => rfl
structure SeenAt (w : World) (v : Value) (ls : List SX) : Prop where
  rows : RdT encS w 2 v ls
  each : ∀ s ∈ ls, RdT encI w 1 s.v s.out
theorem seInfo : (Tryz.prog.info? 95).map (fun i => (i.zero, i.size, i.bytes)) = some (some (.agg #[.slice none 0 0, .int .u8 0]), 2, 32) := by kernel_rfl
theorem set2Seen (A R : List Value) (a0 a1 x0 x1 : Value) (i : Nat) (hi : A.length = i) : (((A ++ a0 :: a1 :: R).toArray.setIfInBounds i x0).setIfInBounds (i + 1) x1) = (A ++ x0 :: x1 :: R).toArray := by
  subst hi
  simp [List.setIfInBounds_toArray, List.set_append]
theorem seen_other {a g k j : Nat} {u : Value} (hne : a ≠ g) (h : w.cell? ⟨a, j, none⟩ = some u) (x y : Value) : ((w.setCell ⟨g, k * 2, none⟩ x).setCell ⟨g, k * 2 + 1, none⟩ y).cell? ⟨a, j, none⟩ = some u := by
  rw [World.cell?_of_block (w := w) ((Below.heap_setCell _ _ _ _ hne).trans (Below.heap_setCell _ _ _ _ hne))]; exact h
end
section
variable {w w' : World} {base b : Nat} {own own' : Nat → Nat} {mm : MM} {xs : List TX} {mv tv ev : Value}
def lowT (own : Nat → Nat) (base : Nat) (k : Nat) : Nat := if k < base then 0 else own k
theorem lowT_eq {k : Nat} (h : base ≤ k) : lowT own base k = own k := if_neg (by omega)
theorem MAt.low (h : MAt w base b own mm xs mv tv ev) : MAt w base b (lowT own base) mm xs mv tv ev :=
  ⟨h.blk, ⟨h.bT.1, by rw [lowT_eq h.bT.1]; exact h.bT.2⟩, h.mem, fun g hg => by rw [lowT_eq (rowLt h.mem hg).1]; exact h.memT g hg, h.ths, fun g hg => by rw [lowT_eq (rowLt h.ths hg).1]; exact h.thsT g hg,
    h.evs, fun g hg => by rw [lowT_eq (rowLt h.evs hg).1]; exact h.evsT g hg, h.same, fun i x hx => by
      have ht := h.th i x hx
      exact ⟨ht.code, fun g hn hg => ⟨(ht.codeT g hn hg).1, by rw [lowT_eq (ht.codeT g hn hg).1]; exact (ht.codeT g hn hg).2⟩, ht.ring, ⟨ht.ringT.1, by rw [lowT_eq ht.ringT.1]; exact ht.ringT.2⟩, ht.out, fun g hg => by rw [lowT_eq (rowLt ht.out hg).1]; exact ht.outT g hg⟩,
    fun k hk => by unfold lowT; split <;> first | rfl | exact h.fresh k hk⟩
def MLive (w : World) (base b : Nat) (mm : MM) (N : Nat) : Prop :=
  ∃ own xs mv tv ev, MAt w base b own mm xs mv tv ev ∧ (∀ k, own k ≠ 0 → base ≤ k) ∧ MOk N mm
theorem MLive.of {N : Nat} (h : MAt w base b own mm xs mv tv ev) (hk : MOk N mm) : MLive w base b mm N :=
  ⟨_, _, _, _, _, h.low, fun k hn => by
    rcases Nat.lt_or_ge k base with e | e
    · exact absurd (if_pos e) hn
    · exact e, hk⟩
theorem MLive.below {N : Nat} (h : MLive w base b mm N) (hb : Below w.heap.size w w') : MLive w' base b mm N := by
  obtain ⟨own, xs, mv, tv, ev, hm, hl, hk⟩ := h
  exact ⟨own, xs, mv, tv, ev, hm.below hb, hl, hk⟩
theorem MLive.goes {N' : Nat} {mm' : MM} (hm : MAt w base b own mm xs mv tv ev) (hl : ∀ k, own k ≠ 0 → base ≤ k) (hg : MGoes w base b own mm' w') (hk : MOk N' mm') : MLive w' base b mm' N' ∧ Below base w w' := by
  obtain ⟨⟨own', xs', mv', tv', ev', h', ho⟩, hc⟩ := hg
  refine ⟨⟨own', xs', mv', tv', ev', h', fun k hn => ?_, hk⟩, hc.to_below hm.base_le (fun k e => hl k e.1)⟩
  by_cases e : k < w.heap.size
  · exact hl k (by rw [← ho k e]; exact hn)
  · have := hm.base_le; omega
theorem newM_ok {v : Value} {mem : Int} {l : List (Value × List OpD)} {cs : List (Int × Int)} (h : CodeAt w v l) (hk : checkM mem l cs = 0) : MOk 0 (newM mem (l.map (·.2)) cs) := by
  have h1 := mem_of_check hk
  have h2 := len_of_check hk
  have h3 := ops_of_check hk
  have hlen : (newM mem (l.map (·.2)) cs).mem.length = mem.toNat := by
    show (fillS cs (List.replicate mem.toNat 0)).length = _
    rw [fill_len]; simp
  refine ⟨by rw [hlen]; omega, by simp only [newM, List.length_map]; omega, Nat.le_refl _, fun t ht => ?_⟩
  simp only [newM, List.map_map, List.mem_map, Function.comp] at ht
  obtain ⟨p, hp, rfl⟩ := ht
  refine ⟨by have := count_each h2.2 p hp; simpa [MT.new] using this, fun o ho => ?_, fun c hc => by simp [MT.new] at hc, by simp [MT.new], by simp [MT.new], by simp [MT.new]⟩
  exact OpOk.of (List.all_eq_true.1 (h3.1 p hp) o ho) (h.wf p hp o ho)
end
section
variable {w w' : World} {base b : Nat}
instance (o : OpD) : Decidable (wfOp o) := by unfold wfOp; exact inferInstance
end
section
variable {w w' : World} {base b : Nat} {own own' : Nat → Nat} {mm : MM} {xs : List TX} {mv tv ev : Value}
structure Mach where
  b : Nat
  own : Nat → Nat
  mm : MM
  N : Nat
def Hot (own : Nat → Nat) (k : Nat) : Prop := own k ≠ 0 ∧ ¬ (5 ≤ own k ∧ own k % 3 = 2)
def Mach.lies (w : World) (base : Nat) (m : Mach) : Prop := (∃ xs mv tv ev, MAt w base m.b m.own m.mm xs mv tv ev) ∧ MOk m.N m.mm
structure Fleet (w : World) (base : Nat) (l : List Mach) : Prop where
  each : ∀ m ∈ l, m.lies w base
  apart : ∀ (i j : Nat) m n, i ≠ j → l[i]? = some m → l[j]? = some n → ∀ k, n.own k ≠ 0 → ¬ Hot m.own k
  low : ∀ m ∈ l, ∀ k, m.own k ≠ 0 → base ≤ k
  here : base ≤ w.heap.size
theorem MAt.base_mono {base0 : Nat} (h : MAt w base b own mm xs mv tv ev) (hb : base0 ≤ base) : MAt w base0 b own mm xs mv tv ev :=
  ⟨h.blk, ⟨Nat.le_trans hb h.bT.1, h.bT.2⟩, ownsRow_mono h.mem hb, h.memT, ownsRow_mono h.ths hb, h.thsT, ownsRow_mono h.evs hb, h.evsT, h.same, fun i x hx => by
    have ht := h.th i x hx
    exact ⟨ht.code, fun g hn hg => ⟨Nat.le_trans hb (ht.codeT g hn hg).1, (ht.codeT g hn hg).2⟩, ht.ring, ⟨Nat.le_trans hb ht.ringT.1, ht.ringT.2⟩, ownsRow_mono ht.out hb, ht.outT⟩, h.fresh⟩
theorem Fleet.none (w : World) {base : Nat} (hb : base ≤ w.heap.size) : Fleet w base [] := ⟨fun m hm => absurd hm (by simp), fun i j m n _ hi => by simp at hi, fun m hm => absurd hm (by simp), hb⟩
theorem Fleet.below {l : List Mach} (h : Fleet w base l) (hb : Below w.heap.size w w') : Fleet w' base l :=
  ⟨fun m hm => by
    obtain ⟨⟨xs, mv, tv, ev, h1⟩, h2⟩ := h.each m hm
    exact ⟨⟨xs, mv, tv, ev, h1.below hb⟩, h2⟩, h.apart, h.low, Nat.le_trans h.here hb.size⟩
def MGoesKept (w w' : World) (base : Nat) (n : Mach) : Prop := n.lies w' base ∧ ∀ k, w.heap.size ≤ k → n.own k = 0
theorem Fleet.goes {l : List Mach} (h : Fleet w base l) {i : Nat} {m : Mach} (hi : l[i]? = some m) {mm' : MM} {N' : Nat} (hg : MGoes w base m.b m.own mm' w') (hk : MOk N' mm') : (∃ own', Fleet w' base (l.set i ⟨m.b, own', mm', N'⟩)) ∧ Below base w w' := by
  obtain ⟨⟨own', xs', mv', tv', ev', h', ho⟩, hc⟩ := hg
  have hm := List.mem_of_getElem? hi
  obtain ⟨⟨xs, mv, tv, ev, h1⟩, -⟩ := h.each m hm
  have hlt := (List.getElem?_eq_some_iff.1 hi).1
  have hlow' : ∀ k, own' k ≠ 0 → base ≤ k := fun k hn => by
    by_cases e : k < w.heap.size
    · exact h.low m hm k (by rw [← ho k e]; exact hn)
    · have := h.here; omega
  have hold : ∀ (j : Nat) n, l[j]? = some n → j ≠ i → MGoesKept w w' base n := fun j n hj hne => by
    obtain ⟨⟨xs2, mv2, tv2, ev2, h2⟩, hk2⟩ := h.each n (List.mem_of_getElem? hj)
    exact ⟨⟨⟨xs2, mv2, tv2, ev2, h2.chg hc (fun k hn => h.apart i j m n (Ne.symm hne) hi hj k hn)⟩, hk2⟩, fun k hk => h2.fresh k hk⟩
  have hget : ∀ (j : Nat) n, (l.set i ⟨m.b, own', mm', N'⟩)[j]? = some n → (j = i ∧ n = ⟨m.b, own', mm', N'⟩) ∨ (j ≠ i ∧ l[j]? = some n) := fun j n hj => by
    by_cases e : i = j
    · subst e
      rw [List.getElem?_set_self hlt] at hj
      exact .inl ⟨rfl, (Option.some.inj hj).symm⟩
    · rw [List.getElem?_set_ne e] at hj
      exact .inr ⟨fun q => e q.symm, hj⟩
  refine ⟨⟨own', fun n hn => ?_, fun j1 j2 n1 n2 hne h1' h2' k hk' => ?_, fun n hn k hk' => ?_, Nat.le_trans h.here hc.size⟩, hc.to_below h.here (fun k e => h.low m hm k e.1)⟩
  · obtain ⟨j, hj⟩ := List.getElem?_of_mem hn
    rcases hget j n hj with ⟨rfl, rfl⟩ | ⟨hne, hj'⟩
    · exact ⟨⟨xs', mv', tv', ev', h'⟩, hk⟩
    · exact (hold j n hj' hne).1
  · rcases hget j1 n1 h1' with ⟨rfl, rfl⟩ | ⟨hne1, hj1⟩
    · rcases hget j2 n2 h2' with ⟨rfl, -⟩ | ⟨hne2, hj2⟩
      · exact absurd rfl hne
      · by_cases e : k < w.heap.size
        · have := h.apart j1 j2 m n2 hne hi hj2 k hk'
          unfold Hot at this ⊢
          rw [show (Mach.own ⟨m.b, own', mm', N'⟩) k = m.own k from ho k e]
          exact this
        · exact absurd ((hold j2 n2 hj2 hne2).2 k (by omega)) hk'
    · rcases hget j2 n2 h2' with ⟨rfl, rfl⟩ | ⟨hne2, hj2⟩
      · by_cases e : k < w.heap.size
        · exact h.apart j1 j2 n1 m hne hj1 hi k (by rw [← ho k e]; exact hk')
        · intro hh
          exact hh.1 ((hold j1 n1 hj1 hne1).2 k (by omega))
      · exact h.apart j1 j2 n1 n2 hne hj1 hj2 k hk'
  · obtain ⟨j, hj⟩ := List.getElem?_of_mem hn
    rcases hget j n hj with ⟨rfl, rfl⟩ | ⟨hne, hj'⟩
    · exact hlow' k hk'
    · exact h.low n (List.mem_of_getElem? hj') k hk'
theorem Fleet.more {l : List Mach} (h : Fleet w base l) (hb : Below w.heap.size w w') {mm : MM} {N : Nat} (hm : MAt w' w.heap.size b own mm xs mv tv ev) (hk : MOk N mm) : ∃ own', Fleet w' base (l ++ [⟨b, own', mm, N⟩]) := by
  have h1 := h.below hb
  have h2 := hm.low.base_mono h.here
  have hn : ∀ k, lowT own w.heap.size k ≠ 0 → w.heap.size ≤ k := fun k hn => by
    rcases Nat.lt_or_ge k w.heap.size with e | e
    · exact absurd (if_pos e) hn
    · exact e
  have hf : ∀ n ∈ l, ∀ k, w.heap.size ≤ k → n.own k = 0 := fun n hn k hk => by
    obtain ⟨⟨xs2, mv2, tv2, ev2, h3⟩, -⟩ := h.each n hn
    exact h3.fresh k hk
  have hget : ∀ (j : Nat) n, (l ++ [(⟨b, lowT own w.heap.size, mm, N⟩ : Mach)])[j]? = some n → (j < l.length ∧ l[j]? = some n) ∨ (j = l.length ∧ n = ⟨b, lowT own w.heap.size, mm, N⟩) := fun j n hj => by
    rcases Nat.lt_or_ge j l.length with e | e
    · rw [List.getElem?_append_left e] at hj
      exact .inl ⟨e, hj⟩
    · rw [List.getElem?_append_right e] at hj
      have hl := (List.getElem?_eq_some_iff.1 hj).1
      simp only [List.length_singleton] at hl
      have : j - l.length = 0 := by omega
      rw [this] at hj
      simp at hj
      exact .inr ⟨by omega, hj.symm⟩
  refine ⟨lowT own w.heap.size, fun n hn' => ?_, fun j1 j2 n1 n2 hne hj1 hj2 k hk' => ?_, fun n hn' k hk' => ?_, Nat.le_trans h.here hb.size⟩
  · rcases List.mem_append.1 hn' with e | e
    · exact h1.each n e
    · rw [List.mem_singleton.1 e]
      exact ⟨⟨xs, mv, tv, ev, h2⟩, hk⟩
  · rcases hget j1 n1 hj1 with ⟨l1, e1⟩ | ⟨l1, rfl⟩
    · rcases hget j2 n2 hj2 with ⟨l2, e2⟩ | ⟨l2, rfl⟩
      · exact h.apart j1 j2 n1 n2 hne e1 e2 k hk'
      · exact fun hh => hh.1 (hf n1 (List.mem_of_getElem? e1) k (hn k hk'))
    · rcases hget j2 n2 hj2 with ⟨l2, e2⟩ | ⟨l2, rfl⟩
      · refine fun hh => ?_
        have := hn k hh.1
        exact hk' (hf n2 (List.mem_of_getElem? e2) k this)
      · omega
  · rcases List.mem_append.1 hn' with e | e
    · exact h.low n e k hk'
    · rw [List.mem_singleton.1 e] at hk'
      have := hn k hk'
      have := h.here
      omega
end
section
variable {w w' : World} {base b : Nat} {own own' : Nat → Nat} {mm : MM} {xs : List TX} {mv tv ev : Value}
theorem events_any (h : MAt w base b own mm xs mv tv ev) (hl : mm.evs.length ≤ 1000000000) :
    Calls Tryz.prog 200 #[.pointer (some ⟨b, 0, none⟩)] w (CloneRow 181 4 encEv mm.evs w) := by
  obtain ⟨ao, cp, rfl⟩ := ownsRow_shape h.evs
  have c3 := h.wcell 3 _ rfl
  have HR := hidI (Rd.of_own h.evs)
  have HL := hidI hl
  clear h hl
  go_enter Tryz.func200, Tryz.ntmps200
  go_wp2_with fail
  refine (cloneEvs_any HR.out HL.out).mono ?_
  rintro e w1 ⟨cv, rfl, ho, hb⟩
  have HO := hidI ho
  have HB := hidI hb
  clear ho hb
  go_wp2_with fail
  go_ret
  exact ⟨_, rfl, HO.out, HB.out⟩
end
theorem sameWides_true {w : World} {ao bo : Option Addr} {ca cb : Nat} {l : List Int} (ha : RdT encI w 1 (.slice ao l.length ca) l) (hb : RdT encI w 1 (.slice bo l.length cb) l) (hm : l.length ≤ 9223372036854775807) :
    Calls Tryz.prog 27 #[.slice ao l.length ca, .slice bo l.length cb] w fun e w' => e = .returned (.bool true) ∧ Below w.heap.size w w' := by
  have HA := hidI ha
  have HB := hidI hb
  clear ha hb
  go_enter Tryz.func27, Tryz.ntmps27
  go_wp2
  go_loopw [13] (fun i wr => ∃ k n : Nat, k ≤ l.length ∧ i = .int .i64 k ∧ wr = w.drewN n) (fun i _ => l.length - (intOf i).toNat)
  case atStart => exact ⟨0, 0, Nat.zero_le _, rfl, rfl⟩
  case round =>
    obtain ⟨k, n, hk, rfl, rfl⟩ := hrel
    by_cases hlt : k < l.length
    · obtain ⟨x, hx⟩ := some_at hlt
      obtain ⟨b1, o1, rfl, hs1, hc1⟩ := HA.out.at encI_len hx
      obtain ⟨b2, o2, rfl, hs2, hc2⟩ := HB.out.at encI_len hx
      have x0 := hc1 0 _ rfl
      have y0 := hc2 0 _ rfl
      simp only [Nat.add_zero, Nat.mul_one] at x0 y0
      clear hc1 hc2 hx hs1 hs2
      go_wp2_with fail
      go_quiet (fail)
      go_wp2
      exact ⟨⟨k + 1, _, by omega, by go_num, rfl⟩, by simp [intOf]; omega⟩
    · obtain rfl : k = l.length := by omega
      go_wp2
      go_ret
      exact ⟨rfl, below_drewN (Below.refl _ _) n⟩
section
variable {w w' : World} {base b : Nat} {own own' : Nat → Nat} {mm : MM} {xs : List TX} {mv tv ev : Value}
def ApartS (s t : SX) : Prop := ∀ g, s.v.ownBlock = some g → t.v.ownBlock ≠ some g
def SeenOwn (mm : MM) (w : World) (r : Ending) (w' : World) : Prop :=
  ∃ ls : List SX, r = .returned (.slice (some ⟨w.heap.size, 0, none⟩) ls.length ls.length) ∧ w'.ownsRow w.heap.size 95 2 (.slice (some ⟨w.heap.size, 0, none⟩) ls.length ls.length) ls.length (ls.flatMap encS) ∧
    (∀ s ∈ ls, w'.ownsRow w.heap.size 2 1 s.v s.out.length (s.out.flatMap encI) ∧ ∀ g, s.v.ownBlock = some g → w.heap.size < g) ∧ ls.Pairwise ApartS ∧
    ls.map (fun s => (s.out, s.fin)) = mm.ths.map (fun t => (t.out, t.fin)) ∧ Below w.heap.size w w'
theorem seen_own0 (h : MAt w base b own mm xs mv tv ev) (h4 : xs.length ≤ 4) (ho : ∀ x ∈ xs, x.th.out.length ≤ 1000000000) :
    Calls Tryz.prog 199 #[.pointer (some ⟨b, 0, none⟩)] w (SeenOwn mm w) := by
  obtain ⟨ao, cp, rfl⟩ := ownsRow_shape h.ths
  have c0 := h.wcell 0 _ rfl
  have c2 := h.wcell 2 _ rfl
  have H := hidI h
  have HO := hidI ho
  obtain ⟨i0, hi, hz0, hz1, hz2⟩ := info_parts seInfo
  clear h ho
  go_enter Tryz.func199, Tryz.ntmps199
  go_wp2_with (at_make; refine wpList_make_s _ rfl _ _ 90 rfl 95 i0 _ 2 [.slice none 0 0, .int .u8 0] Tryz.underlying90 hi hz0 hz1 rfl rfl (by decide) _ _ _ _ xs.length xs.length rfl rfl rfl rfl ?b0 ?b1 ?b2 ?_)
  case b0 => exact Nat.le_refl _
  case b1 => rw [hz2]; omega
  case b2 => unfold maxLen; omega
  intro w2 hblk hsz2 hb2
  have c2' := (World.cell?_of_block (hb2.block _ (World.block_lt_of_cell? _ _ c2))).trans c2
  have HBLK := hidI hblk
  have HS2 := hidI hsz2
  have HB2 := hidI hb2
  clear hblk hsz2 hb2 hi hz0 hz1 hz2 c0
  go_wp2_with fail
  clear c2'
  go_loopw [26] (fun i w' => ∃ k : Nat, k ≤ xs.length ∧ i = .int .i64 (k : Int) ∧ Hid (∃ ls : List SX, ls.length = k ∧ w'.heap[w.heap.size]? = some (.cells (ls.flatMap encS ++ (List.replicate (xs.length - k) [Value.slice none 0 0, Value.int .u8 0]).flatten).toArray 95 (0, 0)) ∧
    (∀ s ∈ ls, w'.ownsRow w.heap.size 2 1 s.v s.out.length (s.out.flatMap encI) ∧ ∀ g, s.v.ownBlock = some g → w.heap.size < g) ∧ ls.Pairwise ApartS ∧ ls.map (fun s => (s.out, s.fin)) = (xs.take k).map (fun x => (x.th.out, x.th.fin)) ∧ Below w.heap.size w w')) (fun i _ => ((xs.length : Int) - intOf i).toNat)
  case atStart => exact ⟨0, by omega, rfl, ⟨[], rfl, by simpa using HBLK.out, fun s hs => absurd hs (by simp), List.Pairwise.nil, rfl, HB2.out⟩⟩
  case round =>
    obtain ⟨k, hk, rfl, HR⟩ := hrel
    obtain ⟨ls, hls, hblk, hea, hpw, hma, hbw⟩ := HR.out
    clear HR
    by_cases hlt : k < xs.length
    · have hx := List.getElem?_eq_getElem hlt
      generalize xs[k] = x at hx
      have hmx := List.mem_of_getElem? hx
      have hm := H.out.below hbw
      obtain ⟨tb, cap, e1, -⟩ := hm.tslice hx
      simp only [Value.slice.injEq, and_true, true_and] at e1
      obtain ⟨rfl, rfl⟩ := e1
      have t0 := hm.cell hx 0 _ rfl
      rw [Nat.add_zero] at t0
      have t1 := hm.cell hx 1 _ rfl
      have t2 := hm.cell hx 2 _ rfl
      have t3 := hm.cell hx 3 _ rfl
      have t4 := hm.cell hx 4 _ rfl
      have t5 := hm.cell hx 5 _ rfl
      have t6 := hm.cell hx 6 _ rfl
      have t7 := hm.cell hx 7 _ rfl
      have t8 := hm.cell hx 8 _ rfl
      have t9 := hm.cell hx 9 _ rfl
      have t10 := hm.cell hx 10 _ rfl
      have t11 := hm.cell hx 11 _ rfl
      have t12 := hm.cell hx 12 _ rfl
      obtain ⟨oo, ocp, hov⟩ := ownsRow_shape (hm.th k x hx).out
      have hone := HO.out x hmx
      have hout := Rd.of_own (hm.th k x hx).out
      rw [hov] at hout t11
      obtain ⟨cao, ccp, hcv⟩ := (hm.th k x hx).code.shape
      rw [hcv] at t0
      have HX := hidI hx
      have HHM := hidI hm
      have HOUT := hidI hout
      have HLS := hidI hls
      have HEA := hidI hea
      have HMA := hidI hma
      have HPW := hidI hpw
      have HBW := hidI hbw
      have HON := hidI hone
      obtain ⟨R, hR⟩ : ∃ R, (List.replicate (xs.length - k) [Value.slice none 0 0, Value.int .u8 0]).flatten = Value.slice none 0 0 :: Value.int .u8 0 :: R ∧ R = (List.replicate (xs.length - (k + 1)) [Value.slice none 0 0, Value.int .u8 0]).flatten := by
        refine ⟨_, ?_, rfl⟩
        rw [show xs.length - k = (xs.length - (k + 1)) + 1 by omega, List.replicate_succ]
        rfl
      rw [hR.1] at hblk
      have HRR := hidI hR.2
      have HBK := hidI hblk
      have hgl := lt_of_block hblk
      clear hls hea hma hpw hbw hm hone hout hov hx hmx hR hblk hcv
      go_wp2_with fail
      obtain ⟨w7, hw7⟩ : ∃ w7, w7 = wr.alloc (Obj.cells #[.slice cao x.th.code.length ccp, .int .i64 (x.th.reg 0), .int .i64 (x.th.reg 1), .int .i64 (x.th.reg 2), .int .i64 (x.th.reg 3), .int .i64 (x.th.reg 4), .int .i64 (x.th.reg 5), .int .i64 (x.th.reg 6), .int .i64 (x.th.reg 7), .int .i64 x.th.at_, .pointer (some ⟨x.bb, 0, none⟩), .slice oo x.th.out.length ocp, .int .u8 x.th.fin] 361) := ⟨_, rfl⟩
      rw [← hw7]
      have hb7 : Below wr.heap.size wr w7 := hw7 ▸ ((Below.refl _ _).alloc (Nat.le_refl _) _)
      have hk7 := heap_alloc_new wr (Obj.cells #[.slice cao x.th.code.length ccp, .int .i64 (x.th.reg 0), .int .i64 (x.th.reg 1), .int .i64 (x.th.reg 2), .int .i64 (x.th.reg 3), .int .i64 (x.th.reg 4), .int .i64 (x.th.reg 5), .int .i64 (x.th.reg 6), .int .i64 (x.th.reg 7), .int .i64 x.th.at_, .pointer (some ⟨x.bb, 0, none⟩), .slice oo x.th.out.length ocp, .int .u8 x.th.fin] 361)
      rw [← hw7] at hk7
      have p11 := cell_of_block (o := 11) hk7 rfl
      have p12 := cell_of_block (o := 12) hk7 rfl
      have HOUT7 := hidI (show RdT encI w7.drew 1 (.slice oo x.th.out.length ocp) x.th.out from Rd.below HOUT.out hb7.drew)
      have HBK7 := hidI ((hb7.block w.heap.size hgl).trans HBK.out)
      have HL2 := hidI (show (ls.flatMap encS).length = k * 2 from by rw [flat_len encS_len, HLS.out])
      have HNE := hidI (show wr.heap.size ≠ w.heap.size by omega)
      have HB7 := hidI hb7
      clear hw7 hb7 hk7 t0 t1 t2 t3 t4 t5 t6 t7 t8 t9 t10 t11 t12
      go_region_held3 (fun w' => w'.cell? ⟨wr.heap.size, 11, none⟩ = some (.slice oo x.th.out.length ocp) ∧ w'.cell? ⟨wr.heap.size, 12, none⟩ = some (.int .u8 x.th.fin)) (refine ⟨?_, ?_⟩ <;> first | assumption | exact r11 _ _ | exact r12 _ _ | simp only [World.cell?_drew, *]) (first | (go_at_call 234; refine (cloneInts_any (w := w7.drew) HOUT7.out HON.out).mono ?_; rintro e8 w8 ⟨cv, rfl, ho8, hb8⟩; obtain ⟨co8, cc8, rfl⟩ := ownsRow_shape ho8; have q11 := (World.cell?_of_block (w := w7) (hb8.block _ (World.block_lt_of_cell? w7 _ p11))).trans p11; have q12 := (World.cell?_of_block (w := w7) (hb8.block _ (World.block_lt_of_cell? w7 _ p12))).trans p12; have hbk8 := (hb8.block w.heap.size (by exact lt_of_block HBK7.out)).trans HBK7.out; have d0 : w8.cell? ⟨w.heap.size, k * 2, none⟩ = some (Value.slice none 0 0) := (cell_of_block hbk8 (by have hA9 := HL2.out; rw [List.getElem?_toArray, List.getElem?_append_right (by omega)]; simp [hA9])); have d1 : w8.cell? ⟨w.heap.size, k * 2 + 1, none⟩ = some (Value.int .u8 0) := (cell_of_block hbk8 (by have hA9 := HL2.out; rw [List.getElem?_toArray, List.getElem?_append_right (by omega)]; simp [hA9])); have f0 := free_of_block (o := k * 2) hbk8; have f1 := free_of_block (o := k * 2 + 1) hbk8; have r11 := fun u v => seen_other (k := k) HNE.out q11 u v; have r12 := fun u v => seen_other (k := k) HNE.out q12 u v; have HK8 := hidI hbk8; have HO8 := hidI ho8; have HB8 := hidI hb8; clear hbk8 ho8 hb8))
      go_wp2_with fail
      have hb8w : Below wr.heap.size wr w8 := HB7.out.drew.trans ((HB8.out).mono (by have := HB7.out.size; exact this))
      have hbw8 : Below w.heap.size w w8 := HBW.out.trans (hb8w.mono HBW.out.size)
      have hkeep : ∀ g, g ≠ w.heap.size → ((w8.setCell ⟨w.heap.size, k * 2, none⟩ (.slice co8 x.th.out.length cc8)).setCell ⟨w.heap.size, k * 2 + 1, none⟩ (.int .u8 x.th.fin)).heap[g]? = w8.heap[g]? := fun g hg => (Below.heap_setCell _ _ _ _ hg).trans (Below.heap_setCell _ _ _ _ hg)
      refine ⟨⟨k + 1, by omega, by go_num, ⟨ls ++ [⟨.slice co8 x.th.out.length cc8, x.th.out, x.th.fin⟩], by simp [HLS.out], ?_, fun s hs => ?_, ?_, ?_, (hbw8.setCell (Nat.le_refl _) _).setCell (Nat.le_refl _) _⟩⟩, by simp [intOf]; omega⟩
      · rw [← HRR.out, List.flatMap_append]
        have e : ([(⟨.slice co8 x.th.out.length cc8, x.th.out, x.th.fin⟩ : SX)]).flatMap encS = [.slice co8 x.th.out.length cc8, .int .u8 x.th.fin] := rfl
        rw [e, List.append_assoc, List.cons_append, List.cons_append, List.nil_append, ← set2Seen (ls.flatMap encS) R (Value.slice none 0 0) (Value.int .u8 0) _ _ _ HL2.out]
        exact block_setCell _ (block_setCell _ HK8.out)
      · rcases List.mem_append.1 hs with hs | hs
        · have h1 := HEA.out s hs
          exact ⟨ownRow_keep h1.1 fun g hg hl => (hkeep g (by have := h1.2 g hg; omega)).trans (hb8w.block g hl), h1.2⟩
        · rw [List.mem_singleton.1 hs]
          have h1 : ∀ g, (Value.slice co8 x.th.out.length cc8).ownBlock = some g → w.heap.size < g := fun g hg => by
            have h2 := (rowLt HO8.out hg).1
            have h3 : wr.heap.size ≤ w7.drew.heap.size := HB7.out.size
            omega
          exact ⟨ownRow_keep (ownsRow_mono HO8.out (by have h3 : wr.heap.size ≤ w7.drew.heap.size := HB7.out.size; omega)) fun g hg hl => hkeep g (by have := h1 g hg; omega), h1⟩
      · refine List.pairwise_append.2 ⟨HPW.out, List.pairwise_singleton _ _, fun s hs t ht g hg hg2 => ?_⟩
        rw [List.mem_singleton.1 ht] at hg2
        have h2 := (rowLt HO8.out hg2).1
        have h3 : wr.heap.size ≤ w7.drew.heap.size := HB7.out.size
        have h4 := (rowLt (HEA.out s hs).1 hg).2
        omega
      · rw [List.map_append, HMA.out, List.take_add_one, HX.out, List.map_append]
        rfl
    · obtain rfl : k = xs.length := by omega
      go_wp2_with fail
      go_ret
      rw [Nat.sub_self] at hblk
      simp only [List.replicate_zero, List.flatten_nil, List.append_nil] at hblk
      rw [List.take_length] at hma
      have hl2 : (ls.flatMap encS).length = xs.length * 2 := by rw [flat_len encS_len, hls]
      have hx4 : xs.length ≤ 4 := h4
      refine ⟨ls, by rw [hls]; rfl, own_of_full hblk (Nat.le_refl _) (by unfold maxLen; omega) (by rw [hl2, hls]), hea, hpw, ?_, hbw⟩
      rw [hma, H.out.same]
      simp
theorem seen_own {N : Nat} (h : MLive w base b mm N) (hN : N ≤ 1000000000) :
    Calls Tryz.prog 199 #[.pointer (some ⟨b, 0, none⟩)] w (SeenOwn mm w) := by
  obtain ⟨own, xs, mv, tv, ev, hm, hl, hk⟩ := h
  refine seen_own0 hm (by rw [← ths_len hm.same]; exact hk.four) fun x hx => ?_
  have := hk.th x.th (by rw [hm.same]; exact List.mem_map_of_mem hx)
  exact Nat.le_trans this.out hN
end
section
variable {w w' : World} {base b : Nat} {mm : MM} {N : Nat} {P : List Nat}
inductive Act1 where
  | step (th : Int)
  | flush (th : Int)
def doAct (s : MM × Int) : Act1 → MM × Int
  | .step th => ((s.1.step th).2, if (s.1.step th).1 = true then s.2 + 1 else s.2)
  | .flush th => ((s.1.flush th).2, s.2)
def doActs (s : MM × Int) (l : List Act1) : MM × Int := l.foldl doAct s
theorem doActs_app (s : MM × Int) (l r : List Act1) : doActs s (l ++ r) = doActs (doActs s l) r := by simp [doActs]
def onceS (p : PickD) : List Act1 := if p.kind = 1 then [.flush p.th] else if p.kind = 2 then [.step p.th, .flush p.th] else [.step p.th]
def timesS (p : PickD) : Nat → List Act1
  | 0 => []
  | k + 1 => timesS p k ++ onceS p
def pickS (p : PickD) : List Act1 := timesS p p.n.toNat
def actsS (l : List PickD) : List Act1 := l.flatMap pickS
theorem actsS_snoc (l : List PickD) (p : PickD) : actsS (l ++ [p]) = actsS l ++ pickS p := by simp [actsS]
def MOff (w : World) (base b : Nat) (mm : MM) (N : Nat) (P : List Nat) : Prop :=
  ∃ own xs mv tv ev, MAt w base b own mm xs mv tv ev ∧ (∀ k, own k ≠ 0 → base ≤ k) ∧ MOk N mm ∧ ∀ k ∈ P, own k = 0 ∧ k < w.heap.size
def Stay (P : List Nat) (w w' : World) : Prop := ∀ k ∈ P, w'.heap[k]? = w.heap[k]?
theorem Stay.refl (P : List Nat) (w : World) : Stay P w w := fun _ _ => rfl
theorem Stay.trans {w'' : World} (h : Stay P w w') (g : Stay P w' w'') : Stay P w w'' := fun k hk => (g k hk).trans (h k hk)
theorem MOff.live (h : MOff w base b mm N P) : MLive w base b mm N := by
  obtain ⟨own, xs, mv, tv, ev, hm, hl, hk, -⟩ := h
  exact ⟨own, xs, mv, tv, ev, hm, hl, hk⟩
theorem MOff.of_live (h : MLive w base b mm N) : MOff w base b mm N [] := by
  obtain ⟨own, xs, mv, tv, ev, hm, hl, hk⟩ := h
  exact ⟨own, xs, mv, tv, ev, hm, hl, hk, fun k hk => absurd hk (by simp)⟩
theorem MOff.base_le (h : MOff w base b mm N P) : base ≤ w.heap.size := by
  obtain ⟨own, xs, mv, tv, ev, hm, -⟩ := h
  exact hm.base_le
theorem MOff.below (h : MOff w base b mm N P) (hb : Below w.heap.size w w') : MOff w' base b mm N P := by
  obtain ⟨own, xs, mv, tv, ev, hm, hl, hk, hp⟩ := h
  exact ⟨own, xs, mv, tv, ev, hm.below hb, hl, hk, fun k hk => ⟨(hp k hk).1, by have := (hp k hk).2; have := hb.size; omega⟩⟩
theorem MOff.alloc (h : MOff w base b mm N P) (o : Obj) : MOff (w.alloc o) base b mm N (w.heap.size :: P) := by
  obtain ⟨own, xs, mv, tv, ev, hm, hl, hk, hp⟩ := h
  refine ⟨own, xs, mv, tv, ev, hm.below ((Below.refl _ _).alloc (Nat.le_refl _) _), hl, hk, fun k hk => ?_⟩
  rcases List.mem_cons.1 hk with rfl | hk
  · exact ⟨hm.fresh _ (Nat.le_refl _), by simp⟩
  · exact ⟨(hp k hk).1, by have := (hp k hk).2; simp; omega⟩
theorem MOff.poke (h : MOff w base b mm N P) {q : Nat} (hq : q ∈ P) (o : Nat) (u : Value) : MOff (w.setCell ⟨q, o, none⟩ u) base b mm N P := by
  obtain ⟨own, xs, mv, tv, ev, hm, hl, hk, hp⟩ := h
  exact ⟨own, xs, mv, tv, ev, hm.keep (by simp [World.setCell]) (fun g hg _ => Below.heap_setCell _ _ _ _ (fun e => hg (by rw [e]; exact (hp q hq).1))), hl, hk, fun k hk => ⟨(hp k hk).1, by simpa [World.setCell] using (hp k hk).2⟩⟩
theorem MOff.sub {P' : List Nat} (h : MOff w base b mm N P) (hs : ∀ k ∈ P', k ∈ P) : MOff w base b mm N P' := by
  obtain ⟨own, xs, mv, tv, ev, hm, hl, hk, hp⟩ := h
  exact ⟨own, xs, mv, tv, ev, hm, hl, hk, fun k hk => hp k (hs k hk)⟩
theorem MOff.addOld (h : MOff w base b mm N P) {q : Nat} (hq : q < base) : MOff w base b mm N (q :: P) := by
  have hb := h.base_le
  obtain ⟨own, xs, mv, tv, ev, hm, hl, hk, hp⟩ := h
  refine ⟨own, xs, mv, tv, ev, hm, hl, hk, fun k hk => ?_⟩
  rcases List.mem_cons.1 hk with rfl | hk
  · exact ⟨Classical.byContradiction fun hc => by have := hl _ hc; omega, by omega⟩
  · exact hp k hk
theorem MOff.goes {own : Nat → Nat} {xs : List TX} {mv tv ev : Value} {N' : Nat} {mm' : MM} (hm : MAt w base b own mm xs mv tv ev) (hl : ∀ k, own k ≠ 0 → base ≤ k) (hp : ∀ k ∈ P, own k = 0 ∧ k < w.heap.size) (hg : MGoes w base b own mm' w') (hk : MOk N' mm') : MOff w' base b mm' N' P ∧ Stay P w w' ∧ Below base w w' := by
  obtain ⟨⟨own', xs', mv', tv', ev', h', ho⟩, hc⟩ := hg
  refine ⟨⟨own', xs', mv', tv', ev', h', fun k hn => ?_, hk, fun k hk' => ⟨by rw [ho _ (hp k hk').2]; exact (hp k hk').1, by have := hc.size; have := (hp k hk').2; omega⟩⟩, fun k hk' => hc.block k (hp k hk').2 (fun e => e.1 (hp k hk').1), hc.to_below hm.base_le (fun k e => hl k e.1)⟩
  by_cases e : k < w.heap.size
  · exact hl k (by rw [← ho k e]; exact hn)
  · have := hm.base_le; omega
theorem step_p (h : MOff w base b mm N P) (hN : N < 1000000000) (z : Int) :
    Calls Tryz.prog 194 #[.pointer (some ⟨b, 0, none⟩), .int .i64 z] w fun r w' => r = .returned (.bool (mm.step z).1) ∧ MOff w' base b (mm.step z).2 (N + 1) P ∧ Stay P w w' ∧ Below base w w' := by
  obtain ⟨own, xs, mv, tv, ev, hm, hl, hk, hp⟩ := h
  refine (step_any hm hk hN z).mono ?_
  rintro r w' ⟨rfl, hg⟩
  exact ⟨rfl, MOff.goes hm hl hp hg (hk.step z)⟩
theorem flush_p (h : MOff w base b mm N P) (z : Int) :
    Calls Tryz.prog 197 #[.pointer (some ⟨b, 0, none⟩), .int .i64 z] w fun r w' => r = .returned (.bool (mm.flush z).1) ∧ MOff w' base b (mm.flush z).2 N P ∧ Stay P w w' ∧ Below base w w' := by
  obtain ⟨own, xs, mv, tv, ev, hm, hl, hk, hp⟩ := h
  refine (flush_any hm hk z).mono ?_
  rintro r w' ⟨rfl, hg⟩
  exact ⟨rfl, MOff.goes hm hl hp hg (hk.flush z)⟩
theorem events_p (h : MOff w base b mm N P) (hN : N ≤ 1000000000) :
    Calls Tryz.prog 200 #[.pointer (some ⟨b, 0, none⟩)] w (CloneRow 181 4 encEv mm.evs w) := by
  obtain ⟨own, xs, mv, tv, ev, hm, hl, hk, hp⟩ := h
  exact events_any hm (Nat.le_trans hk.evs hN)
theorem cell_other3 {w : World} {a q o : Nat} {v : Value} (h : w.cell? ⟨a, o, none⟩ = some v) (hne : a ≠ q) (u0 u1 u2 : Value) : (((w.setCell ⟨q, 0, none⟩ u0).setCell ⟨q, 1, none⟩ u1).setCell ⟨q, 2, none⟩ u2).cell? ⟨a, o, none⟩ = some v := by
  rw [World.cell?_of_block (w := w) (((Below.heap_setCell _ _ _ _ hne).trans (Below.heap_setCell _ _ _ _ hne)).trans (Below.heap_setCell _ _ _ _ hne))]; exact h
structure RunAt (w : World) (base b bx bs bt : Nat) (mm : MM) (steps : Int) (N : Nat) (P : List Nat) : Prop where
  mach : MOff w base b mm N P
  x : w.heap[bx]? = some (.cells #[.pointer (some ⟨b, 0, none⟩)] 334 (0, 0))
  s : w.heap[bs]? = some (.cells #[.int .i64 steps] 3 (0, 0))
  t : w.heap[bt]? = some (.cells #[.func (.func 193) #[] #[.pointer (some ⟨bx, 0, none⟩), .pointer (some ⟨bs, 0, none⟩)]] 340 (0, 0))
  px : bx ∈ P
  ps : bs ∈ P
  pt : bt ∈ P
  nx : bx ≠ bs
  nt : bt ≠ bs
  lo : base ≤ bs
variable {bx bs bt : Nat} {steps : Int}
theorem RunAt.below (h : RunAt w base b bx bs bt mm steps N P) (hb : Below w.heap.size w w') : RunAt w' base b bx bs bt mm steps N P :=
  ⟨h.mach.below hb, blk hb h.x, blk hb h.s, blk hb h.t, h.px, h.ps, h.pt, h.nx, h.nt, h.lo⟩
theorem RunAt.goes {mm' : MM} {N' : Nat} (h : RunAt w base b bx bs bt mm steps N P) (hm : MOff w' base b mm' N' P) (hs : Stay P w w') : RunAt w' base b bx bs bt mm' steps N' P :=
  ⟨hm, (hs _ h.px).trans h.x, (hs _ h.ps).trans h.s, (hs _ h.pt).trans h.t, h.px, h.ps, h.pt, h.nx, h.nt, h.lo⟩
theorem RunAt.count (h : RunAt w base b bx bs bt mm steps N P) (k : Int) : RunAt (w.setCell ⟨bs, 0, none⟩ (.int .i64 k)) base b bx bs bt mm k N P :=
  ⟨h.mach.poke h.ps _ _, block_other h.x h.nx, block_setCell _ h.s, block_other h.t h.nt, h.px, h.ps, h.pt, h.nx, h.nt, h.lo⟩
theorem RunAt.addBox (h : RunAt w base b bx bs bt mm steps N P) (o : Obj) : RunAt (w.alloc o) base b bx bs bt mm steps N (w.heap.size :: P) :=
  ⟨h.mach.alloc o, block_alloc h.x, block_alloc h.s, block_alloc h.t, List.mem_cons_of_mem _ h.px, List.mem_cons_of_mem _ h.ps, List.mem_cons_of_mem _ h.pt, h.nx, h.nt, h.lo⟩
theorem RunAt.more (h : RunAt w base b bx bs bt mm steps N P) : RunAt w base b bx bs bt mm steps (N + 1) P := by
  obtain ⟨⟨own, xs, mv, tv, ev, hm, hl, hk, hp⟩, h2, h3, h4, h5, h6, h7, h8, h9, h10⟩ := h
  exact ⟨⟨own, xs, mv, tv, ev, hm, hl, hk.mono (by omega), hp⟩, h2, h3, h4, h5, h6, h7, h8, h9, h10⟩
theorem RunAt.less {P' : List Nat} (h : RunAt w base b bx bs bt mm steps N P) (hs : ∀ k ∈ P', k ∈ P) (h1 : bx ∈ P') (h2 : bs ∈ P') (h3 : bt ∈ P') : RunAt w base b bx bs bt mm steps N P' :=
  ⟨h.mach.sub hs, h.x, h.s, h.t, h1, h2, h3, h.nx, h.nt, h.lo⟩
def RunPost (base b bx bs bt : Nat) (s : MM × Int) (N : Nat) (P : List Nat) (w : World) (r : Ending) (w' : World) : Prop :=
  r = .returned (.tuple #[]) ∧ RunAt w' base b bx bs bt s.1 s.2 N P ∧ (∀ k ∈ P, k ≠ bs → w'.heap[k]? = w.heap[k]?) ∧ Below base w w'
theorem run1 (h : RunAt w base b bx bs bt mm steps N P) (hN : N < 1000000000) (hs : 0 ≤ steps ∧ steps ≤ 1000000000) (z : Int) :
    Calls Tryz.prog 193 #[.int .i64 z, .pointer (some ⟨bx, 0, none⟩), .pointer (some ⟨bs, 0, none⟩)] w (RunPost base b bx bs bt (doAct (mm, steps) (.step z)) (N + 1) P w) := by
  have cx : w.cell? ⟨bx, 0, none⟩ = some (.pointer (some ⟨b, 0, none⟩)) := cell_of_block h.x rfl
  have H := hidI h
  clear h
  go_enter Tryz.func193, Tryz.ntmps193
  go_wp2_with fail
  refine (step_p H.out.mach hN z).mono ?_
  rintro r w1 ⟨rfl, hm, hst, hb⟩
  have h1 := H.out.goes hm hst
  have c1 : w1.cell? ⟨bs, 0, none⟩ = some (.int .i64 steps) := cell_of_block h1.s rfl
  have f1 := free_of_block (o := 0) h1.s
  have H1 := hidI h1
  have HS := hidI hst
  have HB := hidI hb
  clear hm hst hb h1
  cases hq : (mm.step z).1 with
  | true =>
    go_wp2_with fail
    go_end0
    have he : doAct (mm, steps) (.step z) = ((mm.step z).2, steps + 1) := by simp [doAct, hq]
    rw [he]
    exact ⟨rfl, H1.out.count _, fun k hk hne => (Below.heap_setCell _ _ _ _ hne).trans (HS.out k hk), HB.out.setCell H.out.lo _⟩
  | false =>
    go_wp2_with fail
    go_end0
    have he : doAct (mm, steps) (.step z) = ((mm.step z).2, steps) := by simp [doAct, hq]
    rw [he]
    exact ⟨rfl, H1.out, fun k hk _ => HS.out k hk, HB.out⟩
theorem once_steps (s : MM × Int) (p : PickD) : s.2 ≤ (doActs s (onceS p)).2 ∧ (doActs s (onceS p)).2 ≤ s.2 + 1 := by
  have h : ∀ z, s.2 ≤ (doAct s (.step z)).2 ∧ (doAct s (.step z)).2 ≤ s.2 + 1 := fun z => by
    simp only [doAct]
    split <;> omega
  unfold onceS
  split
  · simp only [doActs, List.foldl, doAct]; omega
  · split
    · exact h p.th
    · exact h p.th
variable {bp : Nat} {p : PickD}
theorem run2 (h : RunAt w base b bx bs bt mm steps N P) (hp : w.heap[bp]? = some (.cells (encPk p).toArray 134 (0, 0))) (hN : N < 1000000000) (hs : 0 ≤ steps ∧ steps ≤ 1000000000) (hk : p.kind ≠ 1 ∧ p.kind ≠ 2) :
    Calls Tryz.prog 195 #[.pointer (some ⟨bt, 0, none⟩), .pointer (some ⟨bp, 0, none⟩)] w (RunPost base b bx bs bt (doActs (mm, steps) (onceS p)) (N + 1) P w) := by
  have ct : w.cell? ⟨bt, 0, none⟩ = some (.func (.func 193) #[] #[.pointer (some ⟨bx, 0, none⟩), .pointer (some ⟨bs, 0, none⟩)]) := cell_of_block h.t rfl
  have c1 : w.cell? ⟨bp, 1, none⟩ = some (.int .i64 p.th) := cell_of_block hp rfl
  have H := hidI h
  have he : doActs (mm, steps) (onceS p) = doAct (mm, steps) (.step p.th) := by simp [onceS, hk.1, hk.2, doActs]
  rw [he]
  clear h hp he
  go_enter Tryz.func195, Tryz.ntmps195
  go_wp2_with fail
  refine (run1 H.out hN hs p.th).mono ?_
  rintro r w1 ⟨rfl, hr⟩
  have HR := hidI hr
  clear hr
  go_wp2_with fail
  go_end0
  exact ⟨rfl, HR.out⟩
theorem run3 (h : RunAt w base b bx bs bt mm steps N P) (hp : w.heap[bp]? = some (.cells (encPk p).toArray 134 (0, 0))) (hk : p.kind = 1) :
    Calls Tryz.prog 196 #[.pointer (some ⟨bx, 0, none⟩), .pointer (some ⟨bp, 0, none⟩)] w (RunPost base b bx bs bt (doActs (mm, steps) (onceS p)) N P w) := by
  have cx : w.cell? ⟨bx, 0, none⟩ = some (.pointer (some ⟨b, 0, none⟩)) := cell_of_block h.x rfl
  have c1 : w.cell? ⟨bp, 1, none⟩ = some (.int .i64 p.th) := cell_of_block hp rfl
  have H := hidI h
  have he : doActs (mm, steps) (onceS p) = ((mm.flush p.th).2, steps) := by simp [onceS, hk, doActs, doAct]
  rw [he]
  clear h hp he
  go_enter Tryz.func196, Tryz.ntmps196
  go_wp2_with fail
  refine (flush_p H.out.mach p.th).mono ?_
  rintro r w1 ⟨rfl, hm, hst, hb⟩
  have H1 := hidI (H.out.goes hm hst)
  have HS := hidI hst
  have HB := hidI hb
  clear hm hst hb
  go_wp2_with fail
  go_end0
  exact ⟨rfl, H1.out, fun k hk _ => HS.out k hk, HB.out⟩
theorem run4 (h : RunAt w base b bx bs bt mm steps N P) (hp : w.heap[bp]? = some (.cells (encPk p).toArray 134 (0, 0))) (hpP : bp ∈ P) (hps : bp ≠ bs) (hN : N < 1000000000) (hs : 0 ≤ steps ∧ steps ≤ 1000000000) (hk : p.kind = 2) :
    Calls Tryz.prog 198 #[.pointer (some ⟨bt, 0, none⟩), .pointer (some ⟨bp, 0, none⟩), .pointer (some ⟨bx, 0, none⟩)] w (RunPost base b bx bs bt (doActs (mm, steps) (onceS p)) (N + 1) P w) := by
  have ct : w.cell? ⟨bt, 0, none⟩ = some (.func (.func 193) #[] #[.pointer (some ⟨bx, 0, none⟩), .pointer (some ⟨bs, 0, none⟩)]) := cell_of_block h.t rfl
  have c1 : w.cell? ⟨bp, 1, none⟩ = some (.int .i64 p.th) := cell_of_block hp rfl
  have H := hidI h
  have HP := hidI hp
  have he : doActs (mm, steps) (onceS p) = (((doAct (mm, steps) (.step p.th)).1.flush p.th).2, (doAct (mm, steps) (.step p.th)).2) := by simp [onceS, hk, doActs, doAct]
  rw [he]
  clear h hp he
  go_enter Tryz.func198, Tryz.ntmps198
  go_wp2_with fail
  refine (run1 H.out hN hs p.th).mono ?_
  rintro r w1 ⟨rfl, h1, hst, hb⟩
  have hp1 := (hst bp hpP hps).trans HP.out
  have c1' : w1.cell? ⟨bp, 1, none⟩ = some (.int .i64 p.th) := cell_of_block hp1 rfl
  have cx : w1.cell? ⟨bx, 0, none⟩ = some (.pointer (some ⟨b, 0, none⟩)) := cell_of_block h1.x rfl
  have H1 := hidI h1
  have HS := hidI hst
  have HB := hidI hb
  clear h1 hst hb hp1
  go_wp2_with fail
  refine (flush_p H1.out.mach p.th).mono ?_
  rintro r w2 ⟨rfl, hm, hst, hb⟩
  have H2 := hidI (H1.out.goes hm hst)
  have HS2 := hidI hst
  have HB2 := hidI (HB.out.trans hb)
  clear hm hst hb
  go_wp2_with fail
  go_end0
  exact ⟨rfl, H2.out, fun k hk hne => (HS2.out k hk).trans (HS.out k hk hne), HB2.out⟩
def RunTrace (S : MM × Int) (w : World) (e : Ending) (w' : World) : Prop :=
  ∃ (ga : Nat) (ls : List SX) (ve : Option Addr) (vec : Nat), e = .returned (.tuple #[.agg #[.slice (some ⟨ga, 0, none⟩) ls.length ls.length, .slice ve S.1.evs.length vec, .int .i64 S.2], .int .i64 0]) ∧
    w'.ownsRow w.heap.size 95 2 (.slice (some ⟨ga, 0, none⟩) ls.length ls.length) ls.length (ls.flatMap encS) ∧
    (∀ s ∈ ls, w'.ownsRow w.heap.size 2 1 s.v s.out.length (s.out.flatMap encI) ∧ ∀ g, s.v.ownBlock = some g → ga < g) ∧ ls.Pairwise ApartS ∧
    ls.map (fun s => (s.out, s.fin)) = S.1.ths.map (fun t => (t.out, t.fin)) ∧
    w'.ownsRow w.heap.size 181 4 (.slice ve S.1.evs.length vec) S.1.evs.length (S.1.evs.flatMap encEv) ∧
    (∀ g, (Value.slice ve S.1.evs.length vec).ownBlock = some g → g ≠ ga ∧ ∀ s ∈ ls, s.v.ownBlock ≠ some g) ∧ Below w.heap.size w w'
end
end Go.Proofs.YtgodmogkhgilmaaGreatDoor

/- Package tso: New. -/
import Derived.Test.YtopdcjimpdalpaaGreatTsoO
import Derived.Test.YtopdcjimpdalpaaGreatTsoS
import Derived.StillTailTactics
namespace Go.Proofs.YtopdcjimpdalpaaGreat
open Go.RowKit
set_option linter.unusedVariables false
set_option linter.unusedSimpArgs false

variable {w w' : World}

def fillS (cs : List (Int × Int)) (m : List Int) : List Int := cs.foldl (fun m c => m.set c.1.toNat c.2) m
def newM (mem : Int) (codes : List (List OpD)) (cs : List (Int × Int)) : MM := ⟨fillS cs (List.replicate mem.toNat 0), codes.map MT.new, []⟩

def own0 (B mb : Nat) (k : Nat) : Nat := if k = B then 1 else if k = mb then 2 else 0
theorem MAt.start {w3 : World} {base B mb mn : Nat} (hB : w3.heap[B]? = some (.cells #[.bool true, .slice (some ⟨mb, 0, none⟩) mn mn, .slice none 0 0, .slice none 0 0] 179 (0, 0)))
    (hm : w3.heap[mb]? = some (.cells (List.replicate mn (encI 0)).flatten.toArray 2 (0, 0))) (hne : mb ≠ B) (h1 : base ≤ B) (h2 : base ≤ mb) (hmn : mn ≤ 262144) :
    MAt w3 base B (own0 B mb) ⟨List.replicate mn 0, [], []⟩ [] (.slice (some ⟨mb, 0, none⟩) mn mn) (.slice none 0 0) (.slice none 0 0) := by
  have e1 : (List.replicate mn (encI 0)).flatten = (List.replicate mn (0 : Int)).flatMap encI := by simp [List.flatMap]
  have e2 : ((List.replicate mn (0 : Int)).flatMap encI).length = mn := by rw [flat_len encI_len]; simp
  have hrow : w3.ownsRow base 2 1 (.slice (some ⟨mb, 0, none⟩) mn mn) mn ((List.replicate mn (0 : Int)).flatMap encI) := by
    refine ⟨by rw [e2, Nat.mul_one], .inr ⟨mb, mn, _, rfl, h2, hm, Nat.le_refl _, by unfold maxLen; omega, ?_, ?_⟩⟩
    · rw [e1]; simp only [List.size_toArray]; rw [e2, Nat.mul_one]
    · rw [e1, List.toList_toArray, List.take_of_length_le (by rw [e2]; simp)]
  have hown : own0 B mb B = 1 := by unfold own0; rw [if_pos rfl]
  have hlen : (List.replicate mn (0 : Int)).length = mn := by simp
  refine ⟨hB, ⟨h1, hown⟩, by rw [hlen]; exact hrow, fun g hg => ?_, World.ownsRow_nil _ _ _ _, (fun g hg => by cases hg), World.ownsRow_nil _ _ _ _, (fun g hg => by cases hg), rfl, (fun i x hx => by simp at hx), fun k hk => ?_⟩
  · simp only [Value.ownBlock, Option.some.injEq] at hg
    subst hg
    unfold own0
    rw [if_neg hne, if_pos rfl]
  · have l1 := lt_of_block hB
    have l2 := lt_of_block hm
    unfold own0
    rw [if_neg (by omega), if_neg (by omega)]

theorem fill_len (cs : List (Int × Int)) : ∀ m, (fillS cs m).length = m.length := by
  induction cs with
  | nil => exact fun m => rfl
  | cons c r ih => intro m; show (fillS r (m.set c.1.toNat c.2)).length = _; rw [ih]; simp
theorem fill_step {cs : List (Int × Int)} {k : Nat} {c : Int × Int} (h : cs[k]? = some c) (m : List Int) : fillS (cs.take (k + 1)) m = (fillS (cs.take k) m).set c.1.toNat c.2 := by
  unfold fillS
  rw [List.take_add_one, h, List.foldl_append]
  rfl
theorem cells_each {mem : Int} : ∀ {cs : List (Int × Int)} {last : Int}, -1 ≤ last → cellsOk mem last cs = true → ∀ c ∈ cs, 0 ≤ c.1 ∧ c.1 < mem := by
  intro cs
  induction cs with
  | nil => exact fun _ _ c hc => absurd hc (by simp)
  | cons d r ih =>
    intro last hl h c hc
    simp only [cellsOk, Bool.and_eq_true, decide_eq_true_eq] at h
    rcases List.mem_cons.1 hc with rfl | e
    · omega
    · exact ih (last := d.1) (by omega) h.2 c e

theorem own_apart1 {own : Nat → Nat} {p : Nat} (h3 : own p = 3) (h1 : own p = 1) : False := by rw [h3] at h1; cases h1

def NewPost (mem : Int) (l : List (Value × List OpD)) (cs : List (Int × Int)) (w : World) (r : Ending) (w' : World) : Prop :=
  ∃ b own xs mv tv, r = .returned (.tuple #[.pointer (some ⟨b, 0, none⟩), .int .i64 0]) ∧ MAt w' w.heap.size b own (newM mem (l.map (·.2)) cs) xs mv tv (.slice none 0 0) ∧ Below w.heap.size w w'

set_option maxRecDepth 100000 in
set_option maxHeartbeats 2000000 in
theorem new_no {ca cca : Option Addr} {ccap ccca : Nat} {l : List (Value × List OpD)} {cs : List (Int × Int)} (h : CodeAt w (.slice ca l.length ccap) l) (hc : RdT encCell w 2 (.slice cca cs.length ccca) cs) (mem : Int) (hl : l.length ≤ 6000000000000) (hcl : cs.length ≤ 9000000000000) (hk : checkM mem l cs ≠ 0) :
    Calls Tryz.prog 60 #[.agg #[.slice ca l.length ccap, .int .i64 mem, .slice cca cs.length ccca]] w fun e w' => e = .returned (.tuple #[.pointer none, .int .i64 (checkM mem l cs)]) ∧ Below w.heap.size w w' := by
  have hb0 : Below w.heap.size w (w.alloc (.cells #[.slice ca l.length ccap, .int .i64 mem, .slice cca cs.length ccca] 30)) := (Below.refl _ _).alloc (Nat.le_refl _) _
  have H0 := hidI (h.below hb0)
  have HC0 := hidI (Rd.below hc hb0)
  have HB := hidI hb0
  have HL := hidI hl
  have HCL := hidI hcl
  obtain ⟨E, hE⟩ : ∃ E, checkM mem l cs = E := ⟨_, rfl⟩
  rw [hE] at hk ⊢
  have hbE : (E == 0) = false := by simpa using hk
  have HE := hidI hE
  clear h hc hl hcl hb0 hE hk
  go_enter Tryz.func60, Tryz.ntmps60
  go_wp2_with fail
  refine (checkM_any H0.out HC0.out mem HL.out HCL.out).mono ?_
  rintro e w1 ⟨rfl, hb1⟩
  rw [HE.out]
  have HB1 := hidI (HB.out.trans (hb1.mono HB.out.size))
  clear hb1
  go_wp2_with fail
  go_ret2
  exact ⟨rfl, HB1.out⟩

theorem mem_of_check {mem : Int} {l : List (Value × List OpD)} {cs : List (Int × Int)} (h : checkM mem l cs = 0) : 1 ≤ mem ∧ mem ≤ 262144 := by
  unfold checkM at h
  split at h
  · cases h
  split at h
  · cases h
  rename_i h1 h2
  omega
theorem len_of_check {mem : Int} {l : List (Value × List OpD)} {cs : List (Int × Int)} (h : checkM mem l cs = 0) : l.length ≤ 4 ∧ countS l ≤ 262144 := by
  unfold checkM at h
  split at h
  · cases h
  rename_i h1
  omega
theorem ops_of_check {mem : Int} {l : List (Value × List OpD)} {cs : List (Int × Int)} (h : checkM mem l cs = 0) : (∀ p ∈ l, p.2.all checkS = true) ∧ cellsOk mem (-1) cs = true := by
  unfold checkM at h
  split at h
  · cases h
  split at h
  · cases h
  split at h
  · cases h
  split at h
  · cases h
  rename_i h3 h4
  exact ⟨List.all_eq_true.1 (by simpa using h3), by simpa using h4⟩

set_option maxRecDepth 100000 in
set_option maxHeartbeats 2000000 in
theorem new_yes {ca cca : Option Addr} {ccap ccca : Nat} {l : List (Value × List OpD)} {cs : List (Int × Int)} (h : CodeAt w (.slice ca l.length ccap) l) (hc : RdT encCell w 2 (.slice cca cs.length ccca) cs) (mem : Int) (hl : l.length ≤ 6000000000000) (hcl : cs.length ≤ 9000000000000) (hk : checkM mem l cs = 0) :
    Calls Tryz.prog 60 #[.agg #[.slice ca l.length ccap, .int .i64 mem, .slice cca cs.length ccca]] w (NewPost mem l cs w) := by
  have hb0 : Below w.heap.size w (w.alloc (.cells #[.slice ca l.length ccap, .int .i64 mem, .slice cca cs.length ccca] 30)) := (Below.refl _ _).alloc (Nat.le_refl _) _
  have hbox := block_new w (.cells #[.slice ca l.length ccap, .int .i64 mem, .slice cca cs.length ccca] 30)
  have H0 := hidI (h.below hb0)
  have HC0 := hidI (Rd.below hc hb0)
  have HB := hidI hb0
  have HC := hidI hc
  have H := hidI h
  have HL := hidI hl
  have HCL := hidI hcl
  have HE := hidI hk
  have HBX := hidI hbox
  clear h hc hl hcl hb0 hk hbox
  go_enter Tryz.func60, Tryz.ntmps60
  go_wp2_with fail
  refine (checkM_any H0.out HC0.out mem HL.out HCL.out).mono ?_
  rintro e w1 ⟨rfl, hb1⟩
  rw [HE.out]
  have hbx1 := (hb1.block w.heap.size (by simp)).trans HBX.out
  have d0 := cell_of_block (o := 0) hbx1 rfl
  have d1 := cell_of_block (o := 1) hbx1 rfl
  have d2 := cell_of_block (o := 2) hbx1 rfl
  have H1 := hidI (H0.out.below hb1)
  have HC1 := hidI (Rd.below HC0.out hb1)
  have HB1 := hidI (HB.out.trans (hb1.mono HB.out.size))
  clear hb1 hbx1 HB H0 HC0 HBX
  have hmem := mem_of_check HE.out
  obtain ⟨mn, rfl⟩ := Int.eq_ofNat_of_zero_le (show 0 ≤ mem by omega)
  have HMN := hidI hmem
  obtain ⟨i0, hi, hz0, hz1, hz2⟩ := info_parts i64Info2
  clear hmem
  go_wp2_with (at_make; refine wpList_make_s _ rfl _ _ 51 rfl 2 i0 _ 1 (encI 0) Tryz.underlying51 hi hz0 hz1 rfl rfl (by decide) _ _ _ _ mn mn rfl rfl rfl rfl ?b0 ?b1 ?b2 ?_)
  case b0 => exact Nat.le_refl _
  case b1 => have := HMN.out; rw [hz2]; omega
  case b2 => have := HMN.out; unfold maxLen; omega
  intro w2 hblk hsz2 hb2
  have hB3 := heap_alloc_new w2 (.cells #[.bool true, .slice (some ⟨w1.heap.size, 0, none⟩) mn mn, .slice none 0 0, .slice none 0 0] 179)
  have hm3 := (heap_alloc_old w2 (.cells #[.bool true, .slice (some ⟨w1.heap.size, 0, none⟩) mn mn, .slice none 0 0, .slice none 0 0] 179) (show w1.heap.size < w2.heap.size by omega)).trans hblk
  have hb3 : Below w1.heap.size w1 (w2.alloc (.cells #[.bool true, .slice (some ⟨w1.heap.size, 0, none⟩) mn mn, .slice none 0 0, .slice none 0 0] 179)) := hb2.alloc hb2.size _
  have q0 := (World.cell?_of_block (hb3.block _ (World.block_lt_of_cell? _ _ d0))).trans d0
  have q2 := (World.cell?_of_block (hb3.block _ (World.block_lt_of_cell? _ _ d2))).trans d2
  have HM3 := hidI (MAt.start (base := w.heap.size) hB3 hm3 (by omega) (by have := HB1.out.size; omega) HB1.out.size (by have := HMN.out; omega))
  have H3 := hidI (H1.out.below hb3)
  have HC3 := hidI (Rd.below HC1.out hb3)
  have HB3 := hidI (HB1.out.trans (hb3.mono HB1.out.size))
  have hw1 : w.heap.size + 1 ≤ w1.heap.size := World.block_lt_of_cell? _ _ d0
  have hwlt := World.block_lt_of_cell? _ _ q0
  have HSZ2 := hidI hsz2
  clear hblk hsz2 hb2 hB3 hm3 hb3 hi hz0 hz1 hz2 d0 d1 d2 H1 HC1 HB1
  go_wp2_with fail
  generalize (w2.alloc (Obj.cells #[.bool true, .slice (some ⟨w1.heap.size, 0, none⟩) mn mn, .slice none 0 0, .slice none 0 0] 179)) = w3 at HM3 q0 q2 H3 HC3 HB3 hwlt ⊢
  have hnb : w.heap.size ≠ w1.heap.size := by omega
  have HNB := hidI hnb
  have HW1 := hidI hw1
  have HMM := hidI (show MAt w3 w.heap.size w2.heap.size (own0 w2.heap.size w1.heap.size) ⟨fillS (cs.take 0) (List.replicate mn 0), [], []⟩ [] (.slice (some ⟨w1.heap.size, 0, none⟩) (fillS (cs.take 0) (List.replicate mn 0)).length mn) (.slice none 0 0) (.slice none 0 0) from by
    have e : (fillS (cs.take 0) (List.replicate mn 0)).length = mn := by rw [fill_len]; simp
    rw [e]; exact HM3.out)
  clear HM3 hnb hw1
  go_loopw [23] (fun i w' => ∃ k : Nat, k ≤ cs.length ∧ i = .int .i64 (k : Int) ∧ Hid (MAt w' w.heap.size w2.heap.size (own0 w2.heap.size w1.heap.size) ⟨fillS (cs.take k) (List.replicate mn 0), [], []⟩ [] (.slice (some ⟨w1.heap.size, 0, none⟩) (fillS (cs.take k) (List.replicate mn 0)).length mn) (.slice none 0 0) (.slice none 0 0) ∧ Chg (fun k => k = w1.heap.size) w3 w')) (fun i _ => ((cs.length : Int) - intOf i).toNat)
  case atStart => exact ⟨0, by omega, rfl, ⟨HMM.out, Chg.refl _ _⟩⟩
  case round =>
    obtain ⟨k, hk, rfl, HR⟩ := hrel
    have hlen : (fillS (cs.take k) (List.replicate mn 0)).length = mn := by rw [fill_len]; simp
    by_cases hlt : k < cs.length
    · have hp := List.getElem?_eq_getElem hlt
      generalize cs[k] = c at hp
      have hst := fill_step hp (List.replicate mn 0)
      have hcb := cells_each (by omega) (ops_of_check HE.out).2 c (List.mem_of_getElem? hp)
      obtain ⟨can, cv⟩ := c
      obtain ⟨an, rfl⟩ := Int.eq_ofNat_of_zero_le hcb.1
      have hwr : Below w.heap.size w wr := Chg.below HB3.out (Nat.le_of_lt hwlt) HR.out.2 (fun k e => by rw [e]; have := HW1.out; omega)
      obtain ⟨gb, co, e1, hgb, hcc⟩ := RdT.at encCell_len (Rd.below HC.out hwr) hp
      have i0 := hcc 0 _ rfl
      have i1 := hcc 1 _ rfl
      rw [Nat.add_zero] at i0
      subst e1
      clear hcc hgb hp
      obtain ⟨w5, hw5⟩ : ∃ w5, w5 = wr.alloc (.cells #[.int .i64 (an : Int), .int .i64 cv] 99) := ⟨_, rfl⟩
      have hb5 : Below wr.heap.size wr w5 := hw5 ▸ ((Below.refl _ _).alloc (Nat.le_refl _) _)
      have h5 := HR.out.1.below hb5
      have ham : an < (fillS (cs.take k) (List.replicate mn 0)).length := by rw [hlen]; omega
      have c1 := h5.wcell 1 _ rfl
      have cM := h5.mcell ham
      have fM := h5.mfree (by show 0 < (fillS (cs.take k) (List.replicate mn 0)).length; omega) an
      have k0 : w5.cell? ⟨wr.heap.size, 0, none⟩ = some (.int .i64 (an : Int)) := by rw [hw5]; exact cell_of_block (heap_alloc_new _ _) rfl
      have k1 : w5.cell? ⟨wr.heap.size, 1, none⟩ = some (.int .i64 cv) := by rw [hw5]; exact cell_of_block (heap_alloc_new _ _) rfl
      have hb6 : wr.heap.size < w5.heap.size := by rw [hw5]; simp
      have hamn : (an : Int) < (mn : Int) := by omega
      rw [hlen] at c1
      have H5 := hidI h5
      have HC5 := hidI (HR.out.2.trans (Chg.of_below hb5))
      have HW5 := hidI hw5
      have HST := hidI hst
      have hkc : (k : Int) < 9000000000000 := by have := HCL.out; omega
      clear h5 hb5 HR hwr hst hcb
      go_wp2_with fail
      rw [← HW5.out]
      clear HW5 hw5
      go_still_tail 8, (by kernel_rfl)
      go_wp2_with fail
      have h6 := H5.out.drew.word ham cv
      refine ⟨⟨k + 1, by omega, by go_num, ⟨?_, (HC5.out.drew).setCell (p := ⟨w1.heap.size, an, none⟩) (.inl rfl) _⟩⟩, by simp [intOf]; omega⟩
      rw [HST.out]
      simp only [Int.toNat_natCast, List.length_set]
      exact h6
    · obtain rfl : k = cs.length := by omega
      rw [List.take_length] at HR
      have q0r := (World.cell?_of_block (HR.out.2.block _ (World.block_lt_of_cell? _ _ q0) HNB.out)).trans q0
      have hwr : Below w.heap.size w wr := Chg.below HB3.out (Nat.le_of_lt hwlt) HR.out.2 (fun k e => by rw [e]; have := HW1.out; omega)
      have HWR := hidI hwr
      have hwl4 : w.heap.size < wr.heap.size := World.block_lt_of_cell? _ _ q0r
      have h4 : l.length ≤ 4 := (len_of_check HE.out).1
      clear q0 q2 hwr H3 HC3 HB3 HMM hwlt
      go_wp2_with fail
      clear hlen
      go_loopw [40] (fun i w' => ∃ k : Nat, k ≤ l.length ∧ i = .int .i64 (k : Int) ∧ Hid (∃ own xs tv, MAt w' w.heap.size w2.heap.size own ⟨fillS cs (List.replicate mn 0), ((l.take k).map (·.2)).map MT.new, []⟩ xs (.slice (some ⟨w1.heap.size, 0, none⟩) (fillS cs (List.replicate mn 0)).length mn) tv (.slice none 0 0) ∧ Below w.heap.size w w' ∧ w'.cell? ⟨w.heap.size, 0, none⟩ = some (.slice ca l.length ccap) ∧ own w.heap.size = 0)) (fun i _ => ((l.length : Int) - intOf i).toNat)
      case atStart => exact ⟨0, by omega, rfl, ⟨_, _, _, HR.out.1, HWR.out, q0r, by unfold own0; rw [if_neg (by have := HSZ2.out; have := HW1.out; omega), if_neg HNB.out]⟩⟩
      case round =>
        obtain ⟨k, hk, rfl, HR2⟩ := hrel
        obtain ⟨own, xs, tv, hm, hbw, hq, ho0⟩ := HR2.out
        clear HR2
        by_cases hlt : k < l.length
        · have hp := List.getElem?_eq_getElem hlt
          generalize l[k] = p at hp
          have hmp := List.mem_of_getElem? hp
          obtain ⟨gb, co, e1, hgb, hcc⟩ := RdT.at encC_len (H.out.below hbw).rows hp
          have i0 := hcc 0 _ rfl
          obtain ⟨ao, cap, hcv⟩ := (H.out.each p hmp).shape
          have hrow := (H.out.below hbw).each p hmp
          rw [hcv] at hrow
          rw [Nat.mul_one, Nat.add_zero, hcv] at i0
          have hle : p.2.length ≤ 1000000000 := by have := count_each (len_of_check HE.out).2 p hmp; omega
          have c2 := hm.wcell 2 _ rfl
          have HMX := hidI hm
          have HROW := hidI hrow
          have HLE := hidI hle
          have HP := hidI hp
          have HBW := hidI hbw
          have HQ := hidI hq
          have HO0 := hidI ho0
          subst e1
          clear hcc hcv hgb hrow hmp hp hm hbw hq hle ho0
          go_wp2_with fail
          have c2d : wr.drew.cell? ⟨w2.heap.size, 2, none⟩ = some tv := c2
          obtain ⟨i0, hi, hz0, hz1, hz2⟩ := info_parts thInfo2
          have hxl : xs.length ≤ 4 := by have := HMX.out.same; have h2 := congrArg List.length this; simp at h2; omega
          have hwrs : w.heap.size ≤ wr.heap.size := HBW.out.size
          go_region_law (first | (go_simp; go_at_call 97; (first | refine (clone_l (Rd.below HROW.out (HB7.out)) HLE.out).mono ?_ | refine (clone_l (w := wr.drew) HROW.out HLE.out).mono ?_); rintro e6 w6 ⟨aoc, cpc, rfl, hcv, hfr, hb6⟩; (first | have HB6 := hidI (HB7.out.trans (hb6.mono HB7.out.size)) | have HB6 := hidI (show Below wr.heap.size wr w6 from (Below.refl wr.heap.size wr).drew.trans hb6)); have c6 := (World.cell?_of_block (HB6.out.block _ (World.block_lt_of_cell? _ _ c2))).trans c2; have c6a := fun o => cell_allocU c6 o; have HCV := hidI hcv; have HFR := hidI hfr; have HB6L := hidI hb6; clear hcv hfr hb6; dsimp only) | (go_simp; go_at_call 98; refine (new_l _).mono ?_; rintro e7 w7 ⟨rb, c7, f7, rfl, hr7, hb7, hge⟩; (first | have HB7 := hidI (HB6.out.trans (hb7.mono HB6.out.size)) | have HB7 := hidI (show Below wr.heap.size wr w7 from (Below.refl wr.heap.size wr).drew.trans hb7)); have c7 := (World.cell?_of_block (HB7.out.block _ (World.block_lt_of_cell? _ _ c2))).trans c2; have c7a := fun o => cell_allocU c7 o; have HR7 := hidI hr7; have HGE := hidI hge; have HB7L := hidI hb7; clear hr7 hb7 hge; dsimp only) | (refine step_append_d (by rfl) (.tmp 48) (.tmp 53) 177 (by rfl) w.heap.size 184 i0 _ 13 136 Tryz.underlying177 hi hz0 hz1 hz2 rfl (by decide) tv xs.length (xs.flatMap encX) (by simp [Act.eval]) (by exact own_below HMX.out.ths ((Ready.codeFirst (w := wr) HB6.out.size HCV.out (fun g hg => HFR.out g hg) HB7L.out HR7.out HGE.out HB7.out).below.alloc (Ready.codeFirst (w := wr) HB6.out.size HCV.out (fun g hg => HFR.out g hg) HB7L.out HR7.out HGE.out HB7.out).below.size _)) ⟨w7.heap.size, 0, none⟩ 1 1 (by decide) (encX (newX p.2 (.slice aoc p.2.length cpc) rb)) (by simp [Act.eval]) rfl (by exact news_at (block_new w7 _)) (one_newX _ _ _ _ _) (by unfold maxLen; omega) (by omega) (by have := (Ready.codeFirst (w := wr) HB6.out.size HCV.out (fun g hg => HFR.out g hg) HB7L.out HR7.out HGE.out HB7.out).below.size; show w.heap.size ≤ (w7.alloc _).heap.size; rw [World.size_alloc]; omega) ?_; intro ao9 cp9 w9 h1 h2 h3; have HPU := hidI (HMX.out.pushed (Ready.codeFirst (w := wr) HB6.out.size HCV.out (fun g hg => HFR.out g hg) HB7L.out HR7.out HGE.out HB7.out) h1 h2 h3); have hb9 := chgblk (Chg.grown (S := fun k => tv.ownBlock = some k) ((Chg.of_below (Ready.codeFirst (w := wr) HB6.out.size HCV.out (fun g hg => HFR.out g hg) HB7L.out HR7.out HGE.out HB7.out).below).alloc _) h3 (fun k hk => .inl hk)) HMX.out.blk (fun hk => own_apart1 (HMX.out.thsT _ hk) HMX.out.bT.2); have s1 := cell_of_block (o := 2) hb9 rfl; have s2 := free_of_block (o := 2) hb9; have HB9 := hidI hb9; clear h1 h2 h3 hb9) | (refine step_append_d (by rfl) (.tmp 48) (.tmp 53) 177 (by rfl) w.heap.size 184 i0 _ 13 136 Tryz.underlying177 hi hz0 hz1 hz2 rfl (by decide) tv xs.length (xs.flatMap encX) (by simp [Act.eval]) (by exact own_below HMX.out.ths ((Ready.ringFirst (w := wr) HR7.out HGE.out HB7.out.size HCV.out HFR.out HB6L.out HB6.out).below.alloc (Ready.ringFirst (w := wr) HR7.out HGE.out HB7.out.size HCV.out HFR.out HB6L.out HB6.out).below.size _)) ⟨w6.heap.size, 0, none⟩ 1 1 (by decide) (encX (newX p.2 (.slice aoc p.2.length cpc) rb)) (by simp [Act.eval]) rfl (by exact news_at (block_new w6 _)) (one_newX _ _ _ _ _) (by unfold maxLen; omega) (by omega) (by have := (Ready.ringFirst (w := wr) HR7.out HGE.out HB7.out.size HCV.out HFR.out HB6L.out HB6.out).below.size; show w.heap.size ≤ (w6.alloc _).heap.size; rw [World.size_alloc]; omega) ?_; intro ao9 cp9 w9 h1 h2 h3; have HPU := hidI (HMX.out.pushed (Ready.ringFirst (w := wr) HR7.out HGE.out HB7.out.size HCV.out HFR.out HB6L.out HB6.out) h1 h2 h3); have hb9 := chgblk (Chg.grown (S := fun k => tv.ownBlock = some k) ((Chg.of_below (Ready.ringFirst (w := wr) HR7.out HGE.out HB7.out.size HCV.out HFR.out HB6L.out HB6.out).below).alloc _) h3 (fun k hk => .inl hk)) HMX.out.blk (fun hk => own_apart1 (HMX.out.thsT _ hk) HMX.out.bT.2); have s1 := cell_of_block (o := 2) hb9 rfl; have s2 := free_of_block (o := 2) hb9; have HB9 := hidI hb9; clear h1 h2 h3 hb9))
          all_goals go_wp2_with fail
          all_goals (
            have hB : w.heap.size < w2.heap.size := by have := HSZ2.out; have := HW1.out; omega
            have htv : ∀ g, tv.ownBlock = some g → w.heap.size ≤ g ∧ g ≠ w.heap.size := fun g hg => ⟨(rowLt HMX.out.ths hg).1, fun e => by have h1 := HMX.out.thsT g hg; rw [e, HO0.out] at h1; cases h1⟩
            refine ⟨⟨k + 1, by omega, by go_num, ⟨pushT own (.slice ao9 (xs.length + 1) cp9) (.slice aoc p.2.length cpc) p.2 rb xs.length wr.heap.size, xs ++ [newX p.2 (.slice aoc p.2.length cpc) rb], .slice ao9 (xs.length + 1) cp9, ?_, Chg.below HBW.out HBW.out.size HPU.out.2 (fun g hg => ?_), ?_, ?_⟩⟩, by simp [intOf]; omega⟩
            · have h9 := HPU.out.1
              rw [List.take_add_one, HP.out]
              simpa using h9
            · rcases hg with rfl | hg
              · omega
              · exact (htv g hg).1
            · refine (World.cell?_of_block (HPU.out.2.block _ (World.block_lt_of_cell? _ _ HQ.out) (fun e => ?_))).trans HQ.out
              rcases e with e | e
              · simp only at e; omega
              · exact (htv _ e).2 rfl
            · rw [pushT_old (World.block_lt_of_cell? _ _ HQ.out)]; exact HO0.out)
        · obtain rfl : k = l.length := by omega
          go_wp2_with fail
          go_ret2
          rw [List.take_length] at hm
          exact ⟨_, _, _, _, _, rfl, hm, hbw⟩
end Go.Proofs.YtopdcjimpdalpaaGreat

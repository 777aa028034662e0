/- The document's machine: New. -/
import Derived.Test.YthmmbldhbdnfpaaGreatDoorRefI
import Derived.Test.YthmmbldhbdnfpaaGreatDoorMRefA
import Derived.Test.YthmmbldhbdnfpaaGreatDoorTsoR
import Derived.Test.YthmmbldhbdnfpaaGreatDoorMBase
import Derived.Deep.RegionHeld3
namespace Go.Proofs.YthmmbldhbdnfpaaGreatDoor
open Go.RowKit
set_option linter.unusedVariables false
set_option linter.unusedSimpArgs false

variable {w w' : World} {base b : Nat} {own own' : Nat → Nat} {mm : MM} {xs : List RX} {mv tv ev : Value}

theorem RAt.start {w3 : World} {base B mb mn : Nat} (hB : w3.heap[B]? = some (.cells #[.slice (some ⟨mb, 0, none⟩) mn mn, .slice none 0 0, .slice none 0 0] 115 (0, 0)))
    (hm : w3.heap[mb]? = some (.cells (List.replicate mn (encI 0)).flatten.toArray 2 (0, 0))) (hne : mb ≠ B) (h1 : base ≤ B) (h2 : base ≤ mb) (hmn : mn ≤ 262144) :
    RAt w3 base B (own0 B mb) ⟨List.replicate mn 0, [], []⟩ [] (.slice (some ⟨mb, 0, none⟩) mn mn) (.slice none 0 0) (.slice none 0 0) := by
  have e1 : (List.replicate mn (encI 0)).flatten = (List.replicate mn (0 : Int)).flatMap encI := by simp [List.flatMap]
  have e2 : ((List.replicate mn (0 : Int)).flatMap encI).length = mn := by rw [flat_len encI_len]; simp
  have hrow : w3.ownsRow base 2 1 (.slice (some ⟨mb, 0, none⟩) mn mn) mn ((List.replicate mn (0 : Int)).flatMap encI) := by
    refine ⟨by rw [e2, Nat.mul_one], .inr ⟨mb, mn, _, rfl, h2, hm, Nat.le_refl _, by unfold maxLen; omega, ?_, ?_⟩⟩
    · rw [e1]; simp only [List.size_toArray]; rw [e2, Nat.mul_one]
    · rw [e1, List.toList_toArray, List.take_of_length_le (by rw [e2]; simp)]
  have hown : own0 B mb B = 1 := by unfold own0; rw [if_pos rfl]
  have hlen : (List.replicate mn (0 : Int)).length = mn := by simp
  refine ⟨hB, ⟨h1, hown⟩, by rw [hlen]; exact hrow, fun g hg => ?_, World.ownsRow_nil _ _ _ _, (fun g hg => by cases hg), World.ownsRow_nil _ _ _ _, (fun g hg => by cases hg), rfl, (fun i x hx => by simp at hx), fun k hk => ?_, fun k hk => ?_⟩
  · simp only [Value.ownBlock, Option.some.injEq] at hg
    subst hg
    unfold own0
    rw [if_neg hne, if_pos rfl]
  · have l1 := lt_of_block hB
    have l2 := lt_of_block hm
    unfold own0
    rw [if_neg (by omega), if_neg (by omega)]
  · unfold own0 at hk
    split at hk
    · omega
    · split at hk
      · omega
      · exact absurd rfl hk

/-- a thread that has not begun -/
def newR (code : List OpD) (cv : Value) : RX := ⟨MT.new code, cv, .slice none 0 0, .slice none 0 0⟩

theorem RAt.push (h : RAt w base b own mm xs mv tv ev) (hc : Chg (fun k => tv.ownBlock = some k) w w') {code : List OpD} {cv tv' : Value} (hcode : RdT encOp w' 6 cv code) (hcn : ∀ g, code ≠ [] → cv.ownBlock = some g → g < base)
    (htv : w'.ownsRow base 117 13 tv' (xs.length + 1) ((xs ++ [newR code cv]).flatMap encR)) (htn : ∀ g, tv'.ownBlock = some g → tv.ownBlock = some g ∨ w.heap.size ≤ g) :
    RAt (w'.setCell ⟨b, 1, none⟩ tv') base b (retag own tv' 3 w.heap.size) { mm with ths := mm.ths ++ [MT.new code] } (xs ++ [newR code cv]) mv tv' ev := by
  have hbl := h.lt
  have hk : ∀ g, own g ≠ 3 → own g ≠ 1 → g < w.heap.size → (w'.setCell ⟨b, 1, none⟩ tv').heap[g]? = w.heap[g]? := fun g h3 h1 hl => by
    rw [Below.heap_setCell _ _ _ _ (fun e => h1 (by rw [e]; exact h.bT.2))]
    exact hc.block g hl fun e => h3 (h.thsT g e)
  have hb1 := chgblk hc h.blk (fun hk => by have h1 := h.thsT _ hk; rw [h.bT.2] at h1; exact absurd h1 (by decide))
  have hset := block_setCell (o := 1) tv' hb1
  have hsz := hc.size
  have hbs := h.base_le
  have ho : ∀ k, k < w.heap.size → retag own tv' 3 w.heap.size k = own k := fun k hk => retag_old hk
  have hlen : (xs ++ [newR code cv]).length = xs.length + 1 := by simp
  have htb : ∀ g, tv'.ownBlock = some g → g ≠ b := fun g hg e => by
    rcases htn g hg with e' | e'
    · have := h.thsT g e'; rw [e, h.bT.2] at this; omega
    · omega
  refine ⟨hset, ⟨h.bT.1, by rw [ho _ hbl]; exact h.bT.2⟩, ownRow_keep h.mem fun g hg hl => hk g (by rw [h.memT g hg]; omega) (by rw [h.memT g hg]; omega) hl, fun g hg => by rw [ho _ (rowLt h.mem hg).2]; exact h.memT g hg,
    by rw [hlen]; exact ownRow_keep htv fun g hg _ => Below.heap_setCell _ _ _ _ (htb g hg), fun g hg => retag_new htn h.thsT hg,
    ownRow_keep h.evs fun g hg hl => hk g (by rw [h.evsT g hg]; omega) (by rw [h.evsT g hg]; omega) hl, fun g hg => by rw [ho _ (rowLt h.evs hg).2]; exact h.evsT g hg,
    by simp [h.same, newR], fun i x hx => ?_, fun k hk' => by rw [heapSize_setCell] at hk'; exact retag_fresh (fun g hg => (rowLt htv hg).2) (h.fresh k (by omega)) hk', fun k => retag_low hbs h.low⟩
  rcases Nat.lt_or_ge i xs.length with hi | hi
  · rw [List.getElem?_append_left hi] at hx
    exact (h.th i x hx).keep ho fun g hg hl => by
      rcases hg with e | e | e
      · exact hk g (by rw [h.zero e]; decide) (by rw [h.zero e]; decide) hl
      · exact hk g (by omega) (by omega) hl
      · exact hk g (by omega) (by omega) hl
  · have hi' : i = xs.length := by have := (List.getElem?_eq_some_iff.1 hx).1; rw [hlen] at this; omega
    subst hi'
    simp at hx
    subst hx
    exact ⟨hcode.keepN fun g hn hg _ => Below.heap_setCell _ _ _ _ (fun e => by have h1 := hcn g hn hg; have h2 := h.bT.1; simp only at e; omega), hcn, CutRow.nil _ _ _ _, (fun g hg => by cases hg), World.ownsRow_nil _ _ _ _, fun g hg => by cases hg⟩

set_option maxRecDepth 100000 in
set_option maxHeartbeats 2000000 in
theorem rnew_no {ca cca : Option Addr} {ccap ccca : Nat} {l : List (Value × List OpD)} {cs : List (Int × Int)} (h : CodeAt w (.slice ca l.length ccap) l) (hc : RdT encCell w 2 (.slice cca cs.length ccca) cs) (mem : Int) (hl : l.length ≤ 6000000000000) (hcl : cs.length ≤ 9000000000000) (hol : ∀ p ∈ l, p.2.length ≤ 9000000000000) (hk : checkM mem l cs ≠ 0) :
    Calls Tryz.prog 9 #[.agg #[.slice ca l.length ccap, .int .i64 mem, .slice cca cs.length ccca]] w fun e w' => e = .returned (.tuple #[.pointer none, .int .i64 (checkM mem l cs)]) ∧ Below w.heap.size w w' := by
  have hb0 : Below w.heap.size w (w.alloc (.cells #[.slice ca l.length ccap, .int .i64 mem, .slice cca cs.length ccca] 25)) := (Below.refl _ _).alloc (Nat.le_refl _) _
  have H0 := hidI (h.below hb0)
  have HC0 := hidI (Rd.below hc hb0)
  have HB := hidI hb0
  have HL := hidI hl
  have HCL := hidI hcl
  have HOL := hidI hol
  have hne : (checkM mem l cs == 0) = false := by simpa using hk
  clear h hc hl hcl hb0 hk hol
  go_enter Tryz.func9, Tryz.ntmps9
  go_wp2_with fail
  refine (rcheckM_any H0.out HC0.out mem HL.out HCL.out HOL.out).mono ?_
  rintro e w1 ⟨rfl, hb1⟩
  have HB1 := hidI (bnext HB.out hb1)
  clear hb1
  go_wp2_with fail
  go_ret2
  exact ⟨rfl, HB1.out⟩

theorem thInfoR : (Tryz.prog.info? 117).map (fun i => (i.zero, i.size, i.bytes)) = some (some (.agg #[.slice none 0 0, .int .i64 0, .int .i64 0, .int .i64 0, .int .i64 0, .int .i64 0, .int .i64 0, .int .i64 0, .int .i64 0, .int .i64 0, .slice none 0 0, .slice none 0 0, .int .u8 0]), 13, 152) := by kernel_rfl
theorem one_newR (code : List OpD) (ao : Option Addr) (n cp : Nat) : ∀ u ∈ encR (newR code (.slice ao n cp)), u.oneCell' = true := by
  intro u hu
  simp [encR, newR, MT.new] at hu
  rcases hu with rfl | rfl | rfl | rfl <;> rfl
def RNewPost (mem : Int) (l : List (Value × List OpD)) (cs : List (Int × Int)) (w : World) (e : Ending) (w' : World) : Prop :=
  ∃ b own xs mv tv ev, e = .returned (.tuple #[.pointer (some ⟨b, 0, none⟩), .int .i64 0]) ∧ RAt w' w.heap.size b own (newM mem (l.map (·.2)) cs) xs mv tv ev ∧ Below w.heap.size w w'

/-- whose code each thread has -/
def CodeOf (l : List (Value × List OpD)) (xs : List RX) : Prop := ∀ x ∈ xs, ∃ p ∈ l, x.cv = p.1 ∧ x.th.code = p.2
def RNewPost2 (mem : Int) (l : List (Value × List OpD)) (cs : List (Int × Int)) (w : World) (e : Ending) (w' : World) : Prop :=
  ∃ b own xs mv tv ev, e = .returned (.tuple #[.pointer (some ⟨b, 0, none⟩), .int .i64 0]) ∧ RAt w' w.heap.size b own (newM mem (l.map (·.2)) cs) xs mv tv ev ∧ CodeOf l xs ∧ Below w.heap.size w w'

set_option maxRecDepth 100000 in
set_option maxHeartbeats 4000000 in
theorem rnew_code {ca cca : Option Addr} {ccap ccca : Nat} {l : List (Value × List OpD)} {cs : List (Int × Int)} (h : CodeAt w (.slice ca l.length ccap) l) (hc : RdT encCell w 2 (.slice cca cs.length ccca) cs) (mem : Int) (hl : l.length ≤ 6000000000000) (hcl : cs.length ≤ 9000000000000) (hol : ∀ p ∈ l, p.2.length ≤ 9000000000000) (hk : checkM mem l cs = 0) :
    Calls Tryz.prog 9 #[.agg #[.slice ca l.length ccap, .int .i64 mem, .slice cca cs.length ccca]] w (RNewPost2 mem l cs w) := by
  have hb0 : Below w.heap.size w (w.alloc (.cells #[.slice ca l.length ccap, .int .i64 mem, .slice cca cs.length ccca] 25)) := (Below.refl _ _).alloc (Nat.le_refl _) _
  have hbox := block_new w (.cells #[.slice ca l.length ccap, .int .i64 mem, .slice cca cs.length ccca] 25)
  have H0 := hidI (h.below hb0)
  have HC0 := hidI (Rd.below hc hb0)
  have HB := hidI hb0
  have HC := hidI hc
  have H := hidI h
  have HL := hidI hl
  have HCL := hidI hcl
  have HOL := hidI hol
  have HE := hidI hk
  have HBX := hidI hbox
  clear h hc hl hcl hb0 hk hbox hol
  go_enter Tryz.func9, Tryz.ntmps9
  go_wp2_with fail
  refine (rcheckM_any H0.out HC0.out mem HL.out HCL.out HOL.out).mono ?_
  rintro e w1 ⟨rfl, hb1⟩
  rw [HE.out]
  have hbx1 := (hb1.block w.heap.size (by simp)).trans HBX.out
  have d0 : w1.cell? ⟨w.heap.size, 0, none⟩ = some (.slice ca l.length ccap) := cell_of_block hbx1 rfl
  have d1 : w1.cell? ⟨w.heap.size, 1, none⟩ = some (.int .i64 mem) := cell_of_block hbx1 rfl
  have d2 : w1.cell? ⟨w.heap.size, 2, none⟩ = some (.slice cca cs.length ccca) := cell_of_block hbx1 rfl
  have HB1 := hidI (HB.out.trans (hb1.mono HB.out.size))
  have hw1 : w.heap.size + 1 ≤ w1.heap.size := lt_of_block hbx1
  have HBX1 := hidI hbx1
  clear hb1 hbx1 HB H0 HC0 HBX
  have hmem := mem_of_check HE.out
  have hlc := len_of_check HE.out
  obtain ⟨mn, rfl⟩ := Int.eq_ofNat_of_zero_le (show 0 ≤ mem by omega)
  have HMN := hidI hmem
  have HLC := hidI hlc
  have hcs : cs.length ≤ 262144 := by
    have h1 := cells_len (by omega) (ops_of_check HE.out).2
    omega
  obtain ⟨i0, hi, hz0, hz1, hz2⟩ := info_parts i64Info2
  clear hmem hlc
  go_wp2_with (at_make; refine wpList_make_s _ rfl _ _ 100 rfl 2 i0 _ 1 (encI 0) Tryz.underlying100 hi hz0 hz1 rfl rfl (by decide) _ _ _ _ mn mn rfl rfl rfl rfl ?b0 ?b1 ?b2 ?_)
  case b0 => exact Nat.le_refl _
  case b1 => have := HMN.out; rw [hz2]; omega
  case b2 => have := HMN.out; unfold maxLen; omega
  intro w2 hblk hsz2 hb2
  have hB3 := heap_alloc_new w2 (.cells #[.slice (some ⟨w1.heap.size, 0, none⟩) mn mn, .slice none 0 0, .slice none 0 0] 115)
  have hm3 := (heap_alloc_old w2 (.cells #[.slice (some ⟨w1.heap.size, 0, none⟩) mn mn, .slice none 0 0, .slice none 0 0] 115) (show w1.heap.size < w2.heap.size by omega)).trans hblk
  have hb3 : Below w1.heap.size w1 (w2.alloc (.cells #[.slice (some ⟨w1.heap.size, 0, none⟩) mn mn, .slice none 0 0, .slice none 0 0] 115)) := hb2.alloc hb2.size _
  have HM3 := hidI (RAt.start (base := w.heap.size) hB3 hm3 (by omega) (by have := HB1.out.size; omega) HB1.out.size (by have := HMN.out; omega))
  have HB3 := hidI (HB1.out.trans (hb3.mono HB1.out.size))
  have HX3 := hidI (blk hb3 HBX1.out)
  have HSZ2 := hidI hsz2
  clear hblk hsz2 hb2 hB3 hm3 hb3 hi hz0 hz1 hz2 d0 d1 d2 HB1 HBX1
  have q2' := cell_of_block (o := 2) HX3.out rfl
  go_wp2_with fail
  generalize (w2.alloc (.cells #[.slice (some ⟨w1.heap.size, 0, none⟩) mn mn, .slice none 0 0, .slice none 0 0] 115)) = w3 at HM3 HB3 HX3 q2' ⊢
  clear q2'
  have HNB := hidI (show ¬ w.heap.size = w1.heap.size from by omega)
  have HMM := hidI (show RAt w3 w.heap.size w2.heap.size (own0 w2.heap.size w1.heap.size) ⟨fillS (cs.take 0) (List.replicate mn 0), [], []⟩ [] (.slice (some ⟨w1.heap.size, 0, none⟩) (fillS (cs.take 0) (List.replicate mn 0)).length mn) (.slice none 0 0) (.slice none 0 0) from by
    have e : (fillS (cs.take 0) (List.replicate mn 0)).length = mn := by rw [fill_len]; simp
    rw [e]; exact HM3.out)
  clear HM3
  go_loopw [6] (fun i w' => ∃ k : Nat, k ≤ cs.length ∧ i = .int .i64 (k : Int) ∧ Hid (RAt w' w.heap.size w2.heap.size (own0 w2.heap.size w1.heap.size) ⟨fillS (cs.take k) (List.replicate mn 0), [], []⟩ [] (.slice (some ⟨w1.heap.size, 0, none⟩) (fillS (cs.take k) (List.replicate mn 0)).length mn) (.slice none 0 0) (.slice none 0 0) ∧ Chg (fun k => k = w1.heap.size) w3 w')) (fun i _ => ((cs.length : Int) - intOf i).toNat)
  case atStart => exact ⟨0, by omega, rfl, ⟨HMM.out, Chg.refl _ _⟩⟩
  case round =>
    obtain ⟨k, hk, rfl, HR⟩ := hrel
    have hlen : (fillS (cs.take k) (List.replicate mn 0)).length = mn := by rw [fill_len]; simp
    have hxr := chgblk HR.out.2 HX3.out (fun e => HNB.out e)
    have r2 : wr.cell? ⟨w.heap.size, 2, none⟩ = some (.slice cca cs.length ccca) := cell_of_block hxr rfl
    have r0 : wr.cell? ⟨w.heap.size, 0, none⟩ = some (.slice ca l.length ccap) := cell_of_block hxr rfl
    have hwr : Below w.heap.size w wr := Chg.below HB3.out HB3.out.size HR.out.2 (fun k e => by rw [e]; omega)
    have HWR := hidI hwr
    have HXR := hidI hxr
    clear hxr hwr
    by_cases hlt : k < cs.length
    · have hp := List.getElem?_eq_getElem hlt
      generalize cs[k] = c at hp
      have hst := fill_step hp (List.replicate mn 0)
      have hcb := cells_each (by omega) (ops_of_check HE.out).2 c (List.mem_of_getElem? hp)
      obtain ⟨can, cv⟩ := c
      obtain ⟨an, rfl⟩ := Int.eq_ofNat_of_zero_le hcb.1
      obtain ⟨gb, co, e1, hgb, hcc⟩ := RdT.at encCell_len (Rd.below HC.out HWR.out) hp
      have i0' := hcc 0 _ rfl
      have i1' := hcc 1 _ rfl
      rw [Nat.add_zero] at i0'
      subst e1
      have ham : an < (fillS (cs.take k) (List.replicate mn 0)).length := by rw [hlen]; omega
      have c0 := HR.out.1.wcell 0 _ rfl
      rw [hlen] at c0
      obtain ⟨M0, hM0⟩ : ∃ M0, (fillS (cs.take k) (List.replicate mn 0)).getD an 0 = M0 := ⟨_, rfl⟩
      have cM := HR.out.1.mcell ham
      have fM := HR.out.1.mfree (by show 0 < (fillS (cs.take k) (List.replicate mn 0)).length; omega) an
      simp only at cM
      rw [hM0] at cM
      have hb9 : an < mn := by rw [hlen] at ham; exact ham
      have HST := hidI hst
      have HAM := hidI ham
      have HLEN := hidI hlen
      clear hcc hgb hp hst hcb hM0 hlen ham
      go_wp2_with fail
      go_region
      go_wp2_with fail
      refine ⟨⟨k + 1, by omega, by go_num, hidI ⟨?_, (HR.out.2.setCell (p := ⟨w1.heap.size, an, none⟩) (.inl rfl) _).drew⟩⟩, by simp [intOf]; omega⟩
      have hw := (HR.out.1.word HAM.out cv).drew
      have e : (fillS (cs.take (k + 1)) (List.replicate mn 0)).length = (fillS (cs.take k) (List.replicate mn 0)).length := by rw [fill_len, fill_len]
      rw [e, HST.out]
      exact hw
    · obtain rfl : k = cs.length := by omega
      rw [List.take_length] at HR
      have HR1 := hidI HR.out.1
      clear HR hlen
      obtain ⟨w5, rfl⟩ : ∃ x, x = wr := ⟨_, rfl⟩
      go_wp2_with fail
      go_loopw [7] (fun i w' => ∃ k : Nat, k ≤ l.length ∧ i = .int .i64 (k : Int) ∧ Hid (∃ own xs tv, RAt w' w.heap.size w2.heap.size own ⟨fillS cs (List.replicate mn 0), (l.take k).map fun p => MT.new p.2, []⟩ xs (.slice (some ⟨w1.heap.size, 0, none⟩) (fillS cs (List.replicate mn 0)).length mn) tv (.slice none 0 0) ∧ xs.length = k ∧ CodeOf l xs ∧ ∀ j, w5.heap.size ≤ j ∨ own j = own0 w2.heap.size w1.heap.size j) ∧ Hid (Below w.heap.size w w' ∧ w'.heap[w.heap.size]? = w5.heap[w.heap.size]? ∧ w5.heap.size ≤ w'.heap.size)) (fun i _ => ((l.length : Int) - intOf i).toNat)
      case atStart => exact ⟨0, by omega, rfl, hidI ⟨_, [], _, by simpa using HR1.out, rfl, (fun x hx => absurd hx (by simp)), fun j => .inr rfl⟩, hidI ⟨HWR.out, rfl, Nat.le_refl _⟩⟩
      case round =>
        obtain ⟨k, hk, rfl, HQ, HW⟩ := hrel
        obtain ⟨own, xs, tv, hq, hxl, hco, hoo⟩ := HQ.out
        have hxr : wr.heap[w.heap.size]? = some (.cells #[.slice ca l.length ccap, .int .i64 (mn : Int), .slice cca cs.length ccca] 25 (0, 0)) := HW.out.2.1.trans HXR.out
        have t0 : wr.cell? ⟨w.heap.size, 0, none⟩ = some (.slice ca l.length ccap) := cell_of_block hxr rfl
        have HX := hidI hxr
        clear hxr
        by_cases hlt : k < l.length
        · have hp := List.getElem?_eq_getElem hlt
          generalize l[k] = p at hp
          have hmp := List.mem_of_getElem? hp
          obtain ⟨ao, cap, hcv⟩ := (H.out.each p hmp).shape
          obtain ⟨cb, co, e1, hcb, hcc⟩ := RdT.at encC_len (H.out.below HW.out.1).rows hp
          have i0' := hcc 0 _ rfl
          rw [Nat.mul_one, Nat.add_zero, hcv] at i0'
          subst e1
          subst hxl
          obtain ⟨to, tc, rfl⟩ := ownsRow_shape hq.ths
          obtain ⟨i0, hi, hz0, hz1, hz2⟩ := info_parts thInfoR
          have c1 := hq.wcell 1 _ rfl
          have f1 := hq.wfree 1
          have h4 := HLC.out.1
          have HQT := hidI hq.ths
          have HQQ := hidI hq
          have HOO := hidI hoo
          have HP := hidI hp
          have hrow := H.out.each p hmp
          rw [hcv] at hrow
          have HROW := hidI hrow
          have HCV := hidI hcv
          have HMP := hidI hmp
          have HCO := hidI hco
          have hw0x : w.heap.size < wr.heap.size := lt_of_block HX.out
          have hbl : w2.heap.size < wr.heap.size := hq.lt
          clear hcc hp hmp hq hoo hcv hrow hco
          go_wp2_with fail
          go_region_law (first | (refine step_append_d (by rfl) (.tmp 53) (.tmp 60) 113 (by rfl) w.heap.size 117 i0 _ 13 152 Tryz.underlying113 hi hz0 hz1 hz2 rfl (by decide) (.slice to xs.length tc) xs.length (xs.flatMap encR) (by simp [Act.eval]) (by exact ownsRow_chg HQT.out (((Chg.refl (fun _ => False) wr).alloc _).drew) (fun _ _ => id)) ⟨wr.heap.size, 0, none⟩ 1 1 (by decide) (encR (newR p.2 (.slice ao p.2.length cap))) (by simp [Act.eval]) rfl (by exact news_at (block_new wr _)) (one_newR _ _ _ _) (by unfold maxLen; omega) (by omega) (by show w.heap.size ≤ (wr.alloc _).heap.size; rw [World.size_alloc]; omega) ?_; intro ao9 cp9 w9 h1 h2 h3; have hg0 : Chg (fun k => (Value.slice to xs.length tc).ownBlock = some k) wr w9 := Chg.grown (S := fun k => (Value.slice to xs.length tc).ownBlock = some k) (((Chg.refl _ wr).alloc _).drew) h3 (fun k hk => .inl hk); have hbt : w9.heap[w2.heap.size]? = wr.heap[w2.heap.size]? := hg0.block w2.heap.size HQQ.out.lt (fun e => by have h7 := HQQ.out.thsT _ e; rw [HQQ.out.bT.2] at h7; omega); have s1 : w9.cell? ⟨w2.heap.size, 1, none⟩ = some (.slice to xs.length tc) := (World.cell?_of_block hbt).trans c1; have s2 : w9.frozen? ⟨w2.heap.size, 1, none⟩ = false := (by have f12 := f1; unfold World.frozen? at f12 ⊢; rw [hbt]; exact f12); have HG0 := hidI hg0; have HR9 := hidI h1; have HFR := hidI h2; clear h1 h2 h3 hg0 hbt))
          all_goals (
            have hb9 : Below w.heap.size w w9 := Chg.below HW.out.1 HW.out.1.size HG0.out (fun k hk => (rowLt HQT.out hk).1)
            have hne : ∀ g, (Value.slice ao9 (xs.length + 1) cp9).ownBlock = some g → (Value.slice to xs.length tc).ownBlock = some g ∨ wr.heap.size ≤ g := fun g hg => by
              rcases HFR.out g hg with e | e
              · exact .inl e
              · exact .inr (by have e' : (wr.alloc _).heap.size ≤ g := e; rw [World.size_alloc] at e'; omega)
            have hpush := HQQ.out.push HG0.out (Rd.below HROW.out hb9) (fun g hn hg => rdt_lt HROW.out hn hg) (by rw [flat_snoc]; exact HR9.out) hne
            have hown0 : own0 w2.heap.size w1.heap.size w.heap.size = 0 := by
              unfold own0
              rw [if_neg (by have := HSZ2.out; omega), if_neg HNB.out]
            have howx : own w.heap.size = 0 := by
              rcases HOO.out w.heap.size with e | e
              · have := lt_of_block HXR.out; omega
              · rw [e]; exact hown0
            have himg : (w9.setCell ⟨w2.heap.size, 1, none⟩ (.slice ao9 (xs.length + 1) cp9)).heap[w.heap.size]? = w5.heap[w.heap.size]? := by
              rw [Below.heap_setCell _ _ _ _ (fun e => by have := HSZ2.out; (try simp only at e); omega)]
              exact (HG0.out.block _ hw0x (fun e => by have h7 := HQQ.out.thsT _ e; rw [howx] at h7; omega)).trans HW.out.2.1
            have HPU := hidI hpush
            have HIM := hidI himg
            have HB9 := hidI hb9
            clear hpush himg hb9 hne howx hown0 c1 f1 hi hz0 hz1 hz2 t0
            go_wp2_with fail
            refine ⟨⟨xs.length + 1, by omega, by go_num, hidI ⟨retag own (.slice ao9 (xs.length + 1) cp9) 3 wr.heap.size, xs ++ [newR p.2 (.slice ao p.2.length cap)], .slice ao9 (xs.length + 1) cp9, ?_, by simp, fun x hx => ?_, fun j => ?_⟩, hidI ⟨(Chg.below HB9.out HB9.out.size ((Chg.refl (fun k => k = w2.heap.size) w9).setCell (p := ⟨w2.heap.size, 1, none⟩) (.inl rfl) _) (fun k e => by rw [e]; exact HQQ.out.bT.1)), HIM.out, by
              have h8 := HG0.out.size
              have h9 := HW.out.2.2
              simp [World.setCell]
              omega⟩⟩, by simp [intOf]; omega⟩
            · have e : (l.take (xs.length + 1)).map (fun p => MT.new p.2) = (l.take xs.length).map (fun p => MT.new p.2) ++ [MT.new p.2] := by
                rw [take_snoc HP.out, List.map_append]; rfl
              rw [e]
              exact HPU.out
            · rcases List.mem_append.1 hx with hx | hx
              · exact HCO.out x hx
              · rw [List.mem_singleton.1 hx]
                exact ⟨p, HMP.out, HCV.out.symm, rfl⟩
            · rcases Nat.lt_or_ge j w5.heap.size with hj | hj
              · right
                rw [retag_old (Nat.lt_of_lt_of_le hj HW.out.2.2)]
                rcases HOO.out j with e | e
                · omega
                · exact e
              · exact .inl hj)
        · obtain rfl : k = l.length := by omega
          go_wp2_with fail
          go_ret2
          have e : newM (mn : Int) (l.map (·.2)) cs = ⟨fillS cs (List.replicate mn 0), (l.take l.length).map fun p => MT.new p.2, []⟩ := by
            rw [List.take_length]
            unfold newM
            simp
          rw [← e] at hq
          exact ⟨_, _, _, _, _, _, rfl, hq, hco, HW.out.1⟩
theorem rnew_yes {ca cca : Option Addr} {ccap ccca : Nat} {l : List (Value × List OpD)} {cs : List (Int × Int)} (h : CodeAt w (.slice ca l.length ccap) l) (hc : RdT encCell w 2 (.slice cca cs.length ccca) cs) (mem : Int) (hl : l.length ≤ 6000000000000) (hcl : cs.length ≤ 9000000000000) (hol : ∀ p ∈ l, p.2.length ≤ 9000000000000) (hk : checkM mem l cs = 0) :
    Calls Tryz.prog 9 #[.agg #[.slice ca l.length ccap, .int .i64 mem, .slice cca cs.length ccca]] w (RNewPost mem l cs w) :=
  (rnew_code h hc mem hl hcl hol hk).mono fun _ _ ⟨b, own, xs, mv, tv, ev, h1, h2, _, h3⟩ => ⟨b, own, xs, mv, tv, ev, h1, h2, h3⟩
/-- a machine whose code lies lower still -/
theorem RAt.rebase {base0 : Nat} (h : RAt w base b own mm xs mv tv ev) (hb : base0 ≤ base) (hc : ∀ x ∈ xs, ∀ g, x.th.code ≠ [] → x.cv.ownBlock = some g → g < base0) : RAt w base0 b own mm xs mv tv ev :=
  ⟨h.blk, ⟨Nat.le_trans hb h.bT.1, h.bT.2⟩, ownsRow_mono h.mem hb, h.memT, ownsRow_mono h.ths hb, h.thsT, ownsRow_mono h.evs hb, h.evsT, h.same, fun i x hx => by
    have ht := h.th i x hx
    exact ⟨ht.code, hc x (List.mem_of_getElem? hx), ht.wait.base_mono hb, ht.waitT, ownsRow_mono ht.out hb, ht.outT⟩, h.fresh, fun k hk => Nat.le_trans hb (h.low k hk)⟩
end Go.Proofs.YthmmbldhbdnfpaaGreatDoor

/- The walk of HistoryApart. -/
import Derived.Test.YtfnbnpkpdoelnaaHistBegins
import Derived.Deep.CutRange
namespace Go.Proofs.Ytfnbnpkpdoelnaa
open Go.RowKit

/-- how each thread's last attempt before the k-th ended -/
def LastOk (s : HS) (n k : Nat) (L : Nat → Int) : Prop := ∀ t, L t = -1 ∨ ∃ j a, j < k ∧ s.atts[j]? = some a ∧ a.th = (t : Int) ∧ L t = if 0 ≤ a.fin then a.fin else (n : Int)

theorem LastOk.step {s : HS} {n k : Nat} {L : Nat → Int} {a : Att} (h : LastOk s n k L) (ha : s.atts[k]? = some a) (h0 : 0 ≤ a.th) : LastOk s n (k + 1) (upd L a.th.toNat (if 0 ≤ a.fin then a.fin else (n : Int))) := by
  intro t
  by_cases ht : t = a.th.toNat
  · subst ht
    refine .inr ⟨k, a, by omega, ha, by omega, ?_⟩
    simp [upd]
  · simp only [upd, if_neg ht]
    rcases h t with h | ⟨j, b, hj, hb, hbt, hL⟩
    · exact .inl h
    · exact .inr ⟨j, b, by omega, hb, hbt, hL⟩

theorem LastOk.lt {s : HS} {n k i : Nat} {L : Nat → Int} {a : Att} (hok : HOk s i) (h : LastOk s n k L) (ha : s.atts[k]? = some a) : L a.th.toNat < a.beg := by
  obtain ⟨h1, h2, h3, -⟩ := hok.att k a ha
  rcases h a.th.toNat with h | ⟨j, b, hj, hb, hbt, hL⟩
  · omega
  · obtain ⟨-, o2⟩ := hok.order j k b a hj hb ha
    have := o2 (by omega)
    rw [hL, if_pos this.1]
    exact this.2

def lastCells (L : Nat → Int) : List Value := [.int .i64 (L 0), .int .i64 (L 1), .int .i64 (L 2), .int .i64 (L 3)]
theorem lastCells_at (L : Nat → Int) {t : Nat} (h : t < 4) : (lastCells L).toArray[t]? = some (.int .i64 (L t)) := by
  rcases four h with rfl | rfl | rfl | rfl <;> rfl
theorem lastCells_set (L : Nat → Int) {t : Nat} (h : t < 4) (z : Int) : (lastCells L).toArray.setIfInBounds t (.int .i64 z) = (lastCells (upd L t z)).toArray := by
  rcases four h with rfl | rfl | rfl | rfl <;> rfl

theorem total_take {l : List Att} {k : Nat} {a : Att} (h : l[k]? = some a) : total (l.take (k + 1)) = total (l.take k) + a.done.length := by
  rw [take_snoc h]
  simp [total]

theorem total_append (l m : List Att) : total (l ++ m) = total l + total m := by simp [total]

theorem count_take {l : List Ev} {k : Nat} {x : Ev} (h : l[k]? = some x) : ((l.take (k + 1)).filter isIn).length = ((l.take k).filter isIn).length + (if isIn x = true then 1 else 0) := by
  rw [take_snoc h, List.filter_append, List.length_append]
  congr 1
  by_cases hx : isIn x = true
  · simp [hx]
  · simp [hx]

theorem upd_upd {α : Type} (f : Nat → α) (i : Nat) (x y : α) : upd (upd f i x) i y = upd f i y := by
  funext j
  simp only [upd]
  split <;> rfl

set_option maxRecDepth 100000 in
set_option maxHeartbeats 8000000 in
theorem apart_any {w : World} {ao : Option Addr} {cap : Nat} {l : List Ev} (h : RdT encEv w 4 (.slice ao l.length cap) l) (hl : l.length < 2 ^ 62) :
    Calls Try.prog 4 #[.slice ao l.length cap] w fun e w' => e = .returned (.bool true) ∧ Below w.heap.size w w' := by
  have HRD := hidI h
  clear h
  go_enter Try.func4, Try.ntmps4
  go_wp2_with fail
  refine (beyond1 l.length (block_new w _) hl).mono ?_
  rintro e w1 ⟨rfl, hb1⟩
  have HB1 := hidI (bel2 hb1)
  clear hb1
  have fin : ∀ {w2 w3 w4 : World}, Below w2.heap.size w2 w3 → Below w3.heap.size w3 w4 → Below w2.heap.size w2 w4 := fun h1 h2 => h1.trans (h2.mono h1.size)
  by_cases hB : 262144 < l.length
  · have eB : decide (262144 < l.length) = true := by simpa using hB
    rw [eB]
    go_wp2_with fail
    go_ret
    exact ⟨rfl, HB1.out⟩
  have eB : decide (262144 < l.length) = false := by simp; omega
  rw [eB]
  have hl2 : l.length ≤ 262144 := by omega
  go_wp2_with fail
  refine (of_any (Rd.below HRD.out HB1.out) (by omega)).mono ?_
  intro e w2 hp
  unfold OfPost at hp
  cases hr : runH l 0 HS.init with
  | inr k =>
    rw [hr] at hp
    obtain ⟨rfl, hb2⟩ := hp
    have HB2 := hidI (fin HB1.out hb2)
    clear hb2 hr
    go_wp2_with fail
    refine (alive_any _).mono ?_
    rintro e w3 ⟨rfl, hb3⟩
    have HB3 := hidI hb3
    clear hb3
    go_wp2_with fail
    go_ret
    exact ⟨rfl, fin HB2.out HB3.out⟩
  | inl s =>
    rw [hr] at hp
    obtain ⟨ao2, cp2, ps, hps, rfl, hrow, hev, hb2⟩ := hp
    have HB2 := hidI (fin HB1.out hb2)
    have HOK := hidI (show HOk s l.length from by have := HOk.run _ HOk.init hr; rwa [Nat.zero_add] at this)
    have HTOT := hidI (show total s.atts = (l.filter isIn).length from by have := total_run _ HOk.init hr; simpa [HS.init, total] using this)
    have HTL := hidI (show total s.atts ≤ l.length from total_le _ hr)
    have HNA := hidI (show ps.length ≤ l.length from by
      have h1 := atts_run _ hr
      have h2 := congrArg List.length hps
      simp [HS.init] at h1 h2
      omega)
    have HPS := hidI hps
    have HROW := hidI hrow
    have HEV := hidI hev
    have HRD2 := hidI (Rd.below HRD.out HB2.out)
    clear hps hrow hev hb2 hr
    go_wp2_with fail
    go_loopw [8, 6] (fun i c wr => wr = w2 ∧ ∃ k : Nat, k ≤ l.length ∧ i = .int .i64 (k : Int) ∧ c = .int .i64 (((l.take k).filter isIn).length : Int)) (fun i _ _ => ((l.length : Int) - intOf i).toNat)
    case atStart => exact ⟨rfl, 0, Nat.zero_le _, rfl, rfl⟩
    case round =>
      obtain ⟨rfl, k, hk, rfl, rfl⟩ := hrel
      by_cases hkl : k < l.length
      · obtain ⟨x, hx⟩ := some_at hkl
        obtain ⟨b, off, rfl, hb, hc⟩ := RdT.at encEv_len HRD2.out hx
        have x1 := hc 1 _ rfl
        have hct := count_take hx
        have hcl := List.length_filter_le isIn (l.take k)
        simp only [List.length_take] at hcl
        clear hc hb
        have HCT := hidI hct
        clear hct
        by_cases h1 : 2 ≤ x.k
        · by_cases h2 : x.k ≤ 6
          · have hi : isIn x = true := by simp [isIn, h1, h2]
            have h3 : x.k ≥ 2 := h1
            go_wp2_with fail
            refine ⟨⟨trivial, k + 1, by omega, by go_num, ?_⟩, by simp [intOf]; omega⟩
            rw [HCT.out, if_pos hi]
            go_num
          · have hi : ¬ isIn x = true := by simp [isIn]; omega
            have h3 : x.k ≥ 2 := h1
            go_wp2_with fail
            refine ⟨⟨trivial, k + 1, by omega, by go_num, ?_⟩, by simp [intOf]; omega⟩
            rw [HCT.out, if_neg hi]
            rfl
        · have hi : ¬ isIn x = true := by simp [isIn]; omega
          have h3 : ¬ x.k ≥ 2 := h1
          go_wp2_with fail
          refine ⟨⟨trivial, k + 1, by omega, by go_num, ?_⟩, by simp [intOf]; omega⟩
          rw [HCT.out, if_neg hi]
          rfl
      · obtain rfl : k = l.length := by omega
        rw [List.take_length, ← HTOT.out]
        obtain ⟨w3, rfl⟩ : ∃ x, x = wr := ⟨_, rfl⟩
        go_wp2_with fail
        go_loopw [10, 7] (fun i d wr => ∃ (k : Nat) (L : Nat → Int), k ≤ ps.length ∧ i = .int .i64 (k : Int) ∧ d = .int .i64 (total (s.atts.take k) : Int) ∧ LastOk s l.length k L ∧ wr.heap[w3.heap.size]? = some (.cells (lastCells L).toArray 38 (0, 0)) ∧ Below w3.heap.size w3 wr) (fun i _ _ => ((ps.length : Int) - intOf i).toNat)
        case atStart => exact ⟨0, fun _ => -1, Nat.zero_le _, rfl, rfl, fun t => .inl rfl, block_new _ _, (Below.refl _ _).alloc (Nat.le_refl _) _⟩
        case round =>
          obtain ⟨k, L, hk, rfl, rfl, hlast, hblk, hbr⟩ := hrel
          have hszr := lt_of_block hblk
          have HLAST := hidI hlast
          have HBLK := hidI hblk
          have HBR := hidI hbr
          clear hlast hblk hbr
          by_cases hkl : k < ps.length
          · obtain ⟨⟨a, dv⟩, hp⟩ := some_at hkl
            have ha : s.atts[k]? = some a := by rw [← HPS.out]; simp [hp]
            have ed := HEV.out _ (List.mem_of_getElem? hp)
            simp only at ed
            obtain ⟨ad, cd, rfl⟩ := ownsRow_shape ed
            have HD := hidI (Rd.below (Rd.of_own ed) HBR.out)
            have HDO := hidI (show ∀ b, (Value.slice ad a.done.length cd).ownBlock = some b → b ≠ w3.heap.size from fun b hb e => by have := (ed.lt b hb).2; omega)
            obtain ⟨g, o, rfl, hg, hc⟩ := RdT.at (enc := enc2) enc2_len (Rd.below (Rd.of_own HROW.out) HBR.out) hp
            have x0 := hc 0 _ rfl
            have x1 := hc 1 _ rfl
            have x2 := hc 2 _ rfl
            have x3 := hc 3 _ rfl
            have x4 := hc 4 _ rfl
            have x5 := hc 5 _ rfl
            have x6 := hc 6 _ rfl
            have x7 := hc 7 _ rfl
            simp only [Nat.add_zero] at x0
            have HA := hidI (HOK.out.att k a ha)
            have HLT := hidI (HLAST.out.lt HOK.out ha)
            have HLS := hidI (HLAST.out.step ha HA.out.1)
            have HTT := hidI (total_take ha)
            have HTB := hidI (show total (s.atts.take (k + 1)) ≤ total s.atts from by
              have h2 := total_append (s.atts.take (k + 1)) (s.atts.drop (k + 1))
              rw [List.take_append_drop] at h2
              omega)
            have HAE := hidI ha
            clear ed hg hc ha
            have h4 := HA.out.2.1
            have h0 := HA.out.1
            have c1 : ∀ t, (ext (wr.alloc (.cells #[.int .i64 a.th, .int .u8 a.kind, .int .i64 a.beg, .int .i64 a.fin, .int .i64 a.clock, .int .i64 a.place, .bool a.writer, .slice ad a.done.length cd] 31)) t).cell? ⟨w3.heap.size, a.th.toNat, none⟩ = some (.int .i64 (L a.th.toNat)) := fun t => cell_of_block (ext_block (block_alloc HBLK.out) t) (lastCells_at L (by omega))
            have c2 : ¬ a.beg ≤ L a.th.toNat := by have := HLT.out; omega
            go_upto_region 18 with fail
            go_cut [111] from 54 to 140 (fun v wx => v = .bool false ∧ wx.heap[wr.heap.size]? = some (.cells (encAtt a (.slice ad a.done.length cd)).toArray 31 (0, 0)) ∧ wx.heap[w3.heap.size]? = some (.cells (lastCells L).toArray 38 (0, 0)) ∧ Below wr.heap.size wr wx)
            case first =>
              have b0 : ∀ t, (ext (wr.alloc (.cells #[.int .i64 a.th, .int .u8 a.kind, .int .i64 a.beg, .int .i64 a.fin, .int .i64 a.clock, .int .i64 a.place, .bool a.writer, .slice ad a.done.length cd] 31)) t).cell? ⟨wr.heap.size, 0, none⟩ = some (.int .i64 a.th) := fun t => cell_of_block (ext_block (block_new _ _) t) rfl
              have b1 : ∀ t, (ext (wr.alloc (.cells #[.int .i64 a.th, .int .u8 a.kind, .int .i64 a.beg, .int .i64 a.fin, .int .i64 a.clock, .int .i64 a.place, .bool a.writer, .slice ad a.done.length cd] 31)) t).cell? ⟨wr.heap.size, 1, none⟩ = some (.int .u8 a.kind) := fun t => cell_of_block (ext_block (block_new _ _) t) rfl
              have b2 : ∀ t, (ext (wr.alloc (.cells #[.int .i64 a.th, .int .u8 a.kind, .int .i64 a.beg, .int .i64 a.fin, .int .i64 a.clock, .int .i64 a.place, .bool a.writer, .slice ad a.done.length cd] 31)) t).cell? ⟨wr.heap.size, 2, none⟩ = some (.int .i64 a.beg) := fun t => cell_of_block (ext_block (block_new _ _) t) rfl
              have b3 : ∀ t, (ext (wr.alloc (.cells #[.int .i64 a.th, .int .u8 a.kind, .int .i64 a.beg, .int .i64 a.fin, .int .i64 a.clock, .int .i64 a.place, .bool a.writer, .slice ad a.done.length cd] 31)) t).cell? ⟨wr.heap.size, 3, none⟩ = some (.int .i64 a.fin) := fun t => cell_of_block (ext_block (block_new _ _) t) rfl
              have b4 : ∀ t, (ext (wr.alloc (.cells #[.int .i64 a.th, .int .u8 a.kind, .int .i64 a.beg, .int .i64 a.fin, .int .i64 a.clock, .int .i64 a.place, .bool a.writer, .slice ad a.done.length cd] 31)) t).cell? ⟨wr.heap.size, 4, none⟩ = some (.int .i64 a.clock) := fun t => cell_of_block (ext_block (block_new _ _) t) rfl
              have b5 : ∀ t, (ext (wr.alloc (.cells #[.int .i64 a.th, .int .u8 a.kind, .int .i64 a.beg, .int .i64 a.fin, .int .i64 a.clock, .int .i64 a.place, .bool a.writer, .slice ad a.done.length cd] 31)) t).cell? ⟨wr.heap.size, 5, none⟩ = some (.int .i64 a.place) := fun t => cell_of_block (ext_block (block_new _ _) t) rfl
              have b6 : ∀ t, (ext (wr.alloc (.cells #[.int .i64 a.th, .int .u8 a.kind, .int .i64 a.beg, .int .i64 a.fin, .int .i64 a.clock, .int .i64 a.place, .bool a.writer, .slice ad a.done.length cd] 31)) t).cell? ⟨wr.heap.size, 6, none⟩ = some (.bool a.writer) := fun t => cell_of_block (ext_block (block_new _ _) t) rfl
              have b7 : ∀ t, (ext (wr.alloc (.cells #[.int .i64 a.th, .int .u8 a.kind, .int .i64 a.beg, .int .i64 a.fin, .int .i64 a.clock, .int .i64 a.place, .bool a.writer, .slice ad a.done.length cd] 31)) t).cell? ⟨wr.heap.size, 7, none⟩ = some (.slice ad a.done.length cd) := fun t => cell_of_block (ext_block (block_new _ _) t) rfl
              have h3 := HA.out.2.2.1
              by_cases hk0 : k = 0
              · subst hk0
                have h5 : ¬ ((0 : Nat) : Int) > 0 := by omega
                rcases HA.out.2.2.2.2.2 with ⟨e1, e2, -, -, -⟩ | ⟨e1, e2, e3⟩
                · have e4 : ¬ a.fin ≥ 0 := by omega
                  have e6 : (a.kind == 0) = true := by simp [e2]
                  have e7 : (a.fin == -1) = true := by simp [e1]
                  clear e1 e2
                  refine wp_region_grow (by kernel_rfl) (by kernel_rfl) ?_
                  repeat (go_big_quiet_step (fail))
                  refine wpQuiet_nil ?_
                  intro w' hb0
                  have hb := hidI hb0
                  clear hb0
                  go_wp2_with fail
                  go_meet
                  exact ⟨rfl, blk hb.out (block_new _ _), blk hb.out (block_alloc HBLK.out), bel2 hb.out⟩
                · have e4 : a.fin ≥ 0 := by omega
                  have e5 : ¬ a.fin ≤ a.beg := by omega
                  have e6 : (a.kind == 0) = false := by simp [e3]
                  have e7 : (a.fin == -1) = false := by simp; omega
                  refine wp_region_grow (by kernel_rfl) (by kernel_rfl) ?_
                  repeat (go_big_quiet_step (fail))
                  refine wpQuiet_nil ?_
                  intro w' hb0
                  have hb := hidI hb0
                  clear hb0
                  go_wp2_with fail
                  go_meet
                  exact ⟨rfl, blk hb.out (block_new _ _), blk hb.out (block_alloc HBLK.out), bel2 hb.out⟩
              · have h5 : (k : Int) > 0 := by omega
                obtain ⟨m, rfl⟩ : ∃ m, k = m + 1 := ⟨k - 1, by omega⟩
                obtain ⟨⟨pa, pv⟩, hpp⟩ := some_at (l := ps) (k := m) (by omega)
                have hpa : s.atts[m]? = some pa := by rw [← HPS.out]; simp [hpp]
                have hpb := (HOK.out.order m (m + 1) pa a (by omega) hpa HAE.out).1
                obtain ⟨g', o', hgo, _, hpc⟩ := RdT.at (enc := enc2) enc2_len (Rd.below (Rd.of_own HROW.out) HBR.out) hpp
                simp only [Option.some.injEq, Addr.mk.injEq, and_true] at hgo
                obtain ⟨rfl, rfl⟩ := hgo
                have pc : ∀ t, (ext (wr.alloc (.cells #[.int .i64 a.th, .int .u8 a.kind, .int .i64 a.beg, .int .i64 a.fin, .int .i64 a.clock, .int .i64 a.place, .bool a.writer, .slice ad a.done.length cd] 31)) t).cell? ⟨g, o + m * 8 + 2, none⟩ = some (.int .i64 pa.beg) := by
                  intro t
                  have h1 := hpc 2 _ rfl
                  exact ext_cell (cell_later ((Below.refl _ _).alloc (Nat.le_refl _) _) h1) t
                have hpb' : ¬ a.beg ≤ pa.beg := by omega
                have hm1 : (((m + 1 : Nat) : Int) - 1) = (m : Int) := by omega
                have hm2 : ((m : Int) + 1 - 1) = (m : Int) := by omega
                have hm3 : IntKind.i64.wrap (m : Int) = (m : Int) := by
                  have := HNA.out
                  rw [IntKind.wrap_i64]
                  omega
                have hmp : m < ps.length := by omega
                clear hpp hpa hpc
                rcases HA.out.2.2.2.2.2 with ⟨e1, e2, -, -, -⟩ | ⟨e1, e2, e3⟩
                · have e4 : ¬ a.fin ≥ 0 := by omega
                  have e6 : (a.kind == 0) = true := by simp [e2]
                  have e7 : (a.fin == -1) = true := by simp [e1]
                  clear e1 e2
                  refine wp_region_grow (by kernel_rfl) (by kernel_rfl) ?_
                  repeat (go_big_quiet_step (fail))
                  refine wpQuiet_nil ?_
                  intro w' hb0
                  have hb := hidI hb0
                  clear hb0
                  go_wp2_with fail
                  go_meet
                  exact ⟨rfl, blk hb.out (block_new _ _), blk hb.out (block_alloc HBLK.out), bel2 hb.out⟩
                · have e4 : a.fin ≥ 0 := by omega
                  have e5 : ¬ a.fin ≤ a.beg := by omega
                  have e6 : (a.kind == 0) = false := by simp [e3]
                  have e7 : (a.fin == -1) = false := by simp; omega
                  refine wp_region_grow (by kernel_rfl) (by kernel_rfl) ?_
                  repeat (go_big_quiet_step (fail))
                  refine wpQuiet_nil ?_
                  intro w' hb0
                  have hb := hidI hb0
                  clear hb0
                  go_wp2_with fail
                  go_meet
                  exact ⟨rfl, blk hb.out (block_new _ _), blk hb.out (block_alloc HBLK.out), bel2 hb.out⟩
            case rest =>
              obtain ⟨rfl, hx, hlb, hbc⟩ := hcut
              have HX := hidI hx
              have HLB := hidI hlb
              have HBC := hidI hbc
              have hne : wr.heap.size ≠ w3.heap.size := by omega
              have X0 : wc.cell? ⟨wr.heap.size, 0, none⟩ = some (.int .i64 a.th) := cell_of_block hx rfl
              have X3 : wc.cell? ⟨wr.heap.size, 3, none⟩ = some (.int .i64 a.fin) := cell_of_block hx rfl
              have C1 : wc.cell? ⟨w3.heap.size, a.th.toNat, none⟩ = some (.int .i64 (L a.th.toNat)) := cell_of_block hlb (lastCells_at L (by omega))
              have C2 : wc.frozen? ⟨w3.heap.size, a.th.toNat, none⟩ = false := free_of_block hlb
              have HL2 := block_setCell (o := a.th.toNat) (.int .i64 (l.length : Int)) hlb
              rw [lastCells_set L (by omega)] at HL2
              have D1 : (wc.setCell ⟨w3.heap.size, a.th.toNat, none⟩ (.int .i64 (l.length : Int))).cell? ⟨w3.heap.size, a.th.toNat, none⟩ = some (.int .i64 (l.length : Int)) := cell_of_block HL2 (by rw [lastCells_at _ (by omega)]; simp [upd])
              have D2 : (wc.setCell ⟨w3.heap.size, a.th.toNat, none⟩ (.int .i64 (l.length : Int))).frozen? ⟨w3.heap.size, a.th.toNat, none⟩ = false := free_of_block HL2
              have D3 : (wc.setCell ⟨w3.heap.size, a.th.toNat, none⟩ (.int .i64 (l.length : Int))).cell? ⟨wr.heap.size, 0, none⟩ = some (.int .i64 a.th) := cell_other X0 hne
              have D4 : (wc.setCell ⟨w3.heap.size, a.th.toNat, none⟩ (.int .i64 (l.length : Int))).cell? ⟨wr.heap.size, 3, none⟩ = some (.int .i64 a.fin) := cell_other X3 hne
              have HL2h := hidI HL2
              clear hx hlb hbc HL2
              have HBW := hidI (fin HBR.out HBC.out)
              have HDW := hidI (Rd.below HD.out HBC.out)
              by_cases hfin : a.fin ≥ 0
              · have hlb2 := block_setCell (o := a.th.toNat) (.int .i64 a.fin) HL2h.out
                rw [lastCells_set _ (by omega), upd_upd] at hlb2
                have HLN : Hid (((wc.setCell ⟨w3.heap.size, a.th.toNat, none⟩ (.int .i64 (l.length : Int))).setCell ⟨w3.heap.size, a.th.toNat, none⟩ (.int .i64 a.fin)).heap[w3.heap.size]? = some (.cells (lastCells (upd L a.th.toNat (if 0 ≤ a.fin then a.fin else (l.length : Int)))).toArray 38 (0, 0))) := hidI (by rw [if_pos hfin]; exact hlb2)
                have HXN := hidI (block_other (u := .int .i64 a.fin) (a := ⟨w3.heap.size, a.th.toNat, none⟩) (block_other (u := .int .i64 (l.length : Int)) (a := ⟨w3.heap.size, a.th.toNat, none⟩) HX.out hne) hne)
                have HBN := hidI ((HBW.out.setCell (p := ⟨w3.heap.size, a.th.toNat, none⟩) (Nat.le_refl _) (.int .i64 (l.length : Int))).setCell (p := ⟨w3.heap.size, a.th.toNat, none⟩) (Nat.le_refl _) (.int .i64 a.fin))
                have HDN := hidI (Rd.chg HDW.out (((Chg.refl (fun k => k = w3.heap.size) wc).setCell (p := ⟨w3.heap.size, a.th.toNat, none⟩) (.inl rfl) (.int .i64 (l.length : Int))).setCell (p := ⟨w3.heap.size, a.th.toNat, none⟩) (.inl rfl) (.int .i64 a.fin)) (fun b hb e => HDO.out b hb e))
                clear hlb2
                go_wp2_with fail
                go_loopw [12] (fun i wz => ∃ j : Nat, j ≤ a.done.length ∧ i = .int .i64 (j : Int) ∧ wz.heap[wr.heap.size]? = some (.cells (encAtt a (.slice ad a.done.length cd)).toArray 31 (0, 0)) ∧ wz.heap[w3.heap.size]? = some (.cells (lastCells (upd L a.th.toNat (if 0 ≤ a.fin then a.fin else (l.length : Int)))).toArray 38 (0, 0)) ∧ Below w3.heap.size w3 wz ∧ RdT encEv wz 4 (.slice ad a.done.length cd) a.done) (fun i _ => ((a.done.length : Int) - intOf i).toNat)
                case atStart => exact ⟨0, Nat.zero_le _, rfl, HXN.out, HLN.out, HBN.out, HDN.out⟩
                case round =>
                  obtain ⟨j, hj, rfl, hx, hlb, hbe, hrd⟩ := hrel
                  have X0 : ∀ t, (ext wr t).cell? ⟨_, 0, none⟩ = some (.int .i64 a.th) := fun t => cell_of_block (ext_block hx t) rfl
                  have X7 : ∀ t, (ext wr t).cell? ⟨_, 7, none⟩ = some (.slice ad a.done.length cd) := fun t => cell_of_block (ext_block hx t) rfl
                  have x7 : wr.cell? ⟨_, 7, none⟩ = some (.slice ad a.done.length cd) := cell_of_block hx rfl
                  have HX := hidI hx
                  have HLB := hidI hlb
                  have HBE := hidI hbe
                  have HRDN := hidI hrd
                  clear hx hlb hbe hrd
                  by_cases hjl : j < a.done.length
                  · obtain ⟨e, he⟩ := some_at hjl
                    have heth : e.th = a.th := HA.out.2.2.2.2.1 e (List.mem_of_getElem? he)
                    obtain ⟨b', o', rfl, hb, hcc⟩ := RdT.at encEv_len HRDN.out he
                    have Z0 : ∀ t, (ext wr t).cell? ⟨b', o' + j * 4, none⟩ = some (.int .i64 a.th) := fun t => ext_cell (by rw [← heth]; exact hcc 0 _ rfl) t
                    have hjb : a.done.length ≤ 262144 := by
                      have h1 := done_le HAE.out (Nat.le_refl _)
                      have h2 := HTL.out
                      omega
                    clear hcc he hb heth
                    go_wp2_with fail
                    refine wp_region_grow (by kernel_rfl) (by kernel_rfl) ?_
                    repeat (go_big_quiet_step (fail))
                    refine wpQuiet_nil ?_
                    intro w' hb0
                    have hb := hidI hb0
                    clear hb0
                    go_wp2_with fail
                    exact ⟨⟨j + 1, by omega, by go_num, blk hb.out HX.out, blk hb.out HLB.out, fin HBE.out hb.out, Rd.below HRDN.out hb.out⟩, by simp [intOf]; omega⟩
                  · obtain rfl : j = a.done.length := by omega
                    have HTT2 := HTT.out
                    have HTB2 := HTB.out
                    have HTL2 := HTL.out
                    have hna := HNA.out
                    have hkb : total (s.atts.take k) + a.done.length ≤ 262144 := by omega
                    go_wp2_with fail
                    refine ⟨⟨k + 1, _, by omega, by go_num, ?_, HLS.out, HLB.out, HBE.out⟩, by simp [intOf]; omega⟩
                    rw [HTT.out, Int.natCast_add]
                    first | exact congrArg _ (wrap64_in _ (by omega)) | exact congrArg _ (IntWalk.wrap64_in _ (by omega))
              · have HLN : Hid ((wc.setCell ⟨w3.heap.size, a.th.toNat, none⟩ (.int .i64 (l.length : Int))).heap[w3.heap.size]? = some (.cells (lastCells (upd L a.th.toNat (if 0 ≤ a.fin then a.fin else (l.length : Int)))).toArray 38 (0, 0))) := hidI (by rw [if_neg hfin]; exact HL2h.out)
                have HXN := hidI (block_other (u := .int .i64 (l.length : Int)) (a := ⟨w3.heap.size, a.th.toNat, none⟩) HX.out hne)
                have HBN := hidI (HBW.out.setCell (p := ⟨w3.heap.size, a.th.toNat, none⟩) (Nat.le_refl _) (.int .i64 (l.length : Int)))
                have HDN := hidI (Rd.chg HDW.out ((Chg.refl (fun k => k = w3.heap.size) wc).setCell (p := ⟨w3.heap.size, a.th.toNat, none⟩) (.inl rfl) (.int .i64 (l.length : Int))) (fun b hb e => HDO.out b hb e))
                go_wp2_with fail
                go_loopw [12] (fun i wz => ∃ j : Nat, j ≤ a.done.length ∧ i = .int .i64 (j : Int) ∧ wz.heap[wr.heap.size]? = some (.cells (encAtt a (.slice ad a.done.length cd)).toArray 31 (0, 0)) ∧ wz.heap[w3.heap.size]? = some (.cells (lastCells (upd L a.th.toNat (if 0 ≤ a.fin then a.fin else (l.length : Int)))).toArray 38 (0, 0)) ∧ Below w3.heap.size w3 wz ∧ RdT encEv wz 4 (.slice ad a.done.length cd) a.done) (fun i _ => ((a.done.length : Int) - intOf i).toNat)
                case atStart => exact ⟨0, Nat.zero_le _, rfl, HXN.out, HLN.out, HBN.out, HDN.out⟩
                case round =>
                  obtain ⟨j, hj, rfl, hx, hlb, hbe, hrd⟩ := hrel
                  have X0 : ∀ t, (ext wr t).cell? ⟨_, 0, none⟩ = some (.int .i64 a.th) := fun t => cell_of_block (ext_block hx t) rfl
                  have X7 : ∀ t, (ext wr t).cell? ⟨_, 7, none⟩ = some (.slice ad a.done.length cd) := fun t => cell_of_block (ext_block hx t) rfl
                  have x7 : wr.cell? ⟨_, 7, none⟩ = some (.slice ad a.done.length cd) := cell_of_block hx rfl
                  have HX := hidI hx
                  have HLB := hidI hlb
                  have HBE := hidI hbe
                  have HRDN := hidI hrd
                  clear hx hlb hbe hrd
                  by_cases hjl : j < a.done.length
                  · obtain ⟨e, he⟩ := some_at hjl
                    have heth : e.th = a.th := HA.out.2.2.2.2.1 e (List.mem_of_getElem? he)
                    obtain ⟨b', o', rfl, hb, hcc⟩ := RdT.at encEv_len HRDN.out he
                    have Z0 : ∀ t, (ext wr t).cell? ⟨b', o' + j * 4, none⟩ = some (.int .i64 a.th) := fun t => ext_cell (by rw [← heth]; exact hcc 0 _ rfl) t
                    have hjb : a.done.length ≤ 262144 := by
                      have h1 := done_le HAE.out (Nat.le_refl _)
                      have h2 := HTL.out
                      omega
                    clear hcc he hb heth
                    go_wp2_with fail
                    refine wp_region_grow (by kernel_rfl) (by kernel_rfl) ?_
                    repeat (go_big_quiet_step (fail))
                    refine wpQuiet_nil ?_
                    intro w' hb0
                    have hb := hidI hb0
                    clear hb0
                    go_wp2_with fail
                    exact ⟨⟨j + 1, by omega, by go_num, blk hb.out HX.out, blk hb.out HLB.out, fin HBE.out hb.out, Rd.below HRDN.out hb.out⟩, by simp [intOf]; omega⟩
                  · obtain rfl : j = a.done.length := by omega
                    have HTT2 := HTT.out
                    have HTB2 := HTB.out
                    have HTL2 := HTL.out
                    have hna := HNA.out
                    have hkb : total (s.atts.take k) + a.done.length ≤ 262144 := by omega
                    go_wp2_with fail
                    refine ⟨⟨k + 1, _, by omega, by go_num, ?_, HLS.out, HLB.out, HBE.out⟩, by simp [intOf]; omega⟩
                    rw [HTT.out, Int.natCast_add]
                    first | exact congrArg _ (wrap64_in _ (by omega)) | exact congrArg _ (IntWalk.wrap64_in _ (by omega))
          · obtain rfl : k = ps.length := by omega
            have hpe : s.atts.take ps.length = s.atts := by
              have h1 := congrArg List.length HPS.out
              simp at h1
              rw [h1, List.take_length]
            rw [hpe]
            go_wp2_with fail
            refine (alive_any _).mono ?_
            rintro e w4 ⟨rfl, hb4⟩
            have HB4 := hidI (fin HB2.out (fin HBR.out hb4))
            clear hb4
            go_wp2_with fail
            go_ret
            exact ⟨rfl, HB4.out⟩
end Go.Proofs.Ytfnbnpkpdoelnaa

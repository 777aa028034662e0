/- Package tso: Seen: the answer is memory of its own. (Written by mktsou2.py.) -/
import Derived.Test.YtopdcjimpdalpaaGreatTsoV
namespace Go.Proofs.YtopdcjimpdalpaaGreat
open Go.RowKit
set_option linter.unusedVariables false
set_option linter.unusedSimpArgs false

variable {w w' : World} {base b : Nat} {own own' : Nat → Nat} {mm : MM} {xs : List TX} {mv tv ev : Value}

def ApartS (s t : SX) : Prop := ∀ g, s.v.ownBlock = some g → t.v.ownBlock ≠ some g
def SeenOwn (mm : MM) (w : World) (r : Ending) (w' : World) : Prop :=
  ∃ ls : List SX, r = .returned (.slice (some ⟨w.heap.size, 0, none⟩) ls.length ls.length) ∧ w'.ownsRow w.heap.size 81 2 (.slice (some ⟨w.heap.size, 0, none⟩) ls.length ls.length) ls.length (ls.flatMap encS) ∧
    (∀ s ∈ ls, w'.ownsRow w.heap.size 2 1 s.v s.out.length (s.out.flatMap encI) ∧ ∀ g, s.v.ownBlock = some g → w.heap.size < g) ∧ ls.Pairwise ApartS ∧
    ls.map (fun s => (s.out, s.fin)) = mm.ths.map (fun t => (t.out, t.fin)) ∧ Below w.heap.size w w'

set_option maxRecDepth 100000 in
set_option maxHeartbeats 2000000 in
theorem seen_own0 (h : MAt w base b own mm xs mv tv ev) (h4 : xs.length ≤ 4) (ho : ∀ x ∈ xs, x.th.out.length ≤ 1000000000) :
    Calls Tryz.prog 68 #[.pointer (some ⟨b, 0, none⟩)] w (SeenOwn mm w) := by
  obtain ⟨ao, cp, rfl⟩ := ownsRow_shape h.ths
  have c0 := h.wcell 0 _ rfl
  have c2 := h.wcell 2 _ rfl
  have H := hidI h
  have HO := hidI ho
  obtain ⟨i0, hi, hz0, hz1, hz2⟩ := info_parts seInfo
  clear h ho
  go_enter Tryz.func68, Tryz.ntmps68
  go_wp2_with (at_make; refine wpList_make_s _ rfl _ _ 64 rfl 81 i0 _ 2 [.slice none 0 0, .int .u8 0] Tryz.underlying64 hi hz0 hz1 rfl rfl (by decide) _ _ _ _ xs.length xs.length rfl rfl rfl rfl ?b0 ?b1 ?b2 ?_)
  case b0 => exact Nat.le_refl _
  case b1 => rw [hz2]; omega
  case b2 => unfold maxLen; omega
  intro w2 hblk hsz2 hb2
  have c2' := (World.cell?_of_block (hb2.block _ (World.block_lt_of_cell? _ _ c2))).trans c2
  have HBLK := hidI hblk
  have HS2 := hidI hsz2
  have HB2 := hidI hb2
  clear hblk hsz2 hb2 hi hz0 hz1 hz2 c0
  go_wp2_with fail
  clear c2'
  go_loopw [26] (fun i w' => ∃ k : Nat, k ≤ xs.length ∧ i = .int .i64 (k : Int) ∧ Hid (∃ ls : List SX, ls.length = k ∧ w'.heap[w.heap.size]? = some (.cells (ls.flatMap encS ++ (List.replicate (xs.length - k) [Value.slice none 0 0, Value.int .u8 0]).flatten).toArray 81 (0, 0)) ∧
    (∀ s ∈ ls, w'.ownsRow w.heap.size 2 1 s.v s.out.length (s.out.flatMap encI) ∧ ∀ g, s.v.ownBlock = some g → w.heap.size < g) ∧ ls.Pairwise ApartS ∧ ls.map (fun s => (s.out, s.fin)) = (xs.take k).map (fun x => (x.th.out, x.th.fin)) ∧ Below w.heap.size w w')) (fun i _ => ((xs.length : Int) - intOf i).toNat)
  case atStart => exact ⟨0, by omega, rfl, ⟨[], rfl, by simpa using HBLK.out, fun s hs => absurd hs (by simp), List.Pairwise.nil, rfl, HB2.out⟩⟩
  case round =>
    obtain ⟨k, hk, rfl, HR⟩ := hrel
    obtain ⟨ls, hls, hblk, hea, hpw, hma, hbw⟩ := HR.out
    clear HR
    by_cases hlt : k < xs.length
    · have hx := List.getElem?_eq_getElem hlt
      generalize xs[k] = x at hx
      have hmx := List.mem_of_getElem? hx
      have hm := H.out.below hbw
      obtain ⟨tb, cap, e1, -⟩ := hm.tslice hx
      simp only [Value.slice.injEq, and_true, true_and] at e1
      obtain ⟨rfl, rfl⟩ := e1
      have t0 := hm.cell hx 0 _ rfl
      rw [Nat.add_zero] at t0
      have t1 := hm.cell hx 1 _ rfl
      have t2 := hm.cell hx 2 _ rfl
      have t3 := hm.cell hx 3 _ rfl
      have t4 := hm.cell hx 4 _ rfl
      have t5 := hm.cell hx 5 _ rfl
      have t6 := hm.cell hx 6 _ rfl
      have t7 := hm.cell hx 7 _ rfl
      have t8 := hm.cell hx 8 _ rfl
      have t9 := hm.cell hx 9 _ rfl
      have t10 := hm.cell hx 10 _ rfl
      have t11 := hm.cell hx 11 _ rfl
      have t12 := hm.cell hx 12 _ rfl
      obtain ⟨oo, ocp, hov⟩ := ownsRow_shape (hm.th k x hx).out
      have hone := HO.out x hmx
      have hout := Rd.of_own (hm.th k x hx).out
      rw [hov] at hout t11
      obtain ⟨cao, ccp, hcv⟩ := (hm.th k x hx).code.shape
      rw [hcv] at t0
      have HX := hidI hx
      have HHM := hidI hm
      have HOUT := hidI hout
      have HLS := hidI hls
      have HEA := hidI hea
      have HMA := hidI hma
      have HPW := hidI hpw
      have HBW := hidI hbw
      have HON := hidI hone
      obtain ⟨R, hR⟩ : ∃ R, (List.replicate (xs.length - k) [Value.slice none 0 0, Value.int .u8 0]).flatten = Value.slice none 0 0 :: Value.int .u8 0 :: R ∧ R = (List.replicate (xs.length - (k + 1)) [Value.slice none 0 0, Value.int .u8 0]).flatten := by
        refine ⟨_, ?_, rfl⟩
        rw [show xs.length - k = (xs.length - (k + 1)) + 1 by omega, List.replicate_succ]
        rfl
      rw [hR.1] at hblk
      have HRR := hidI hR.2
      have HBK := hidI hblk
      have hgl := lt_of_block hblk
      clear hls hea hma hpw hbw hm hone hout hov hx hmx hR hblk hcv
      go_wp2_with fail
      obtain ⟨w7, hw7⟩ : ∃ w7, w7 = wr.alloc (Obj.cells #[.slice cao x.th.code.length ccp, .int .i64 (x.th.reg 0), .int .i64 (x.th.reg 1), .int .i64 (x.th.reg 2), .int .i64 (x.th.reg 3), .int .i64 (x.th.reg 4), .int .i64 (x.th.reg 5), .int .i64 (x.th.reg 6), .int .i64 (x.th.reg 7), .int .i64 x.th.at_, .pointer (some ⟨x.bb, 0, none⟩), .slice oo x.th.out.length ocp, .int .u8 x.th.fin] 184) := ⟨_, rfl⟩
      rw [← hw7]
      have hb7 : Below wr.heap.size wr w7 := hw7 ▸ ((Below.refl _ _).alloc (Nat.le_refl _) _)
      have hk7 := heap_alloc_new wr (Obj.cells #[.slice cao x.th.code.length ccp, .int .i64 (x.th.reg 0), .int .i64 (x.th.reg 1), .int .i64 (x.th.reg 2), .int .i64 (x.th.reg 3), .int .i64 (x.th.reg 4), .int .i64 (x.th.reg 5), .int .i64 (x.th.reg 6), .int .i64 (x.th.reg 7), .int .i64 x.th.at_, .pointer (some ⟨x.bb, 0, none⟩), .slice oo x.th.out.length ocp, .int .u8 x.th.fin] 184)
      rw [← hw7] at hk7
      have p11 := cell_of_block (o := 11) hk7 rfl
      have p12 := cell_of_block (o := 12) hk7 rfl
      have HOUT7 := hidI (show RdT encI w7.drew 1 (.slice oo x.th.out.length ocp) x.th.out from Rd.below HOUT.out hb7.drew)
      have HBK7 := hidI ((hb7.block w.heap.size hgl).trans HBK.out)
      have HL2 := hidI (show (ls.flatMap encS).length = k * 2 from by rw [flat_len encS_len, HLS.out])
      have HNE := hidI (show wr.heap.size ≠ w.heap.size by omega)
      have HB7 := hidI hb7
      clear hw7 hb7 hk7 t0 t1 t2 t3 t4 t5 t6 t7 t8 t9 t10 t11 t12
      go_region_held3 (fun w' => w'.cell? ⟨wr.heap.size, 11, none⟩ = some (.slice oo x.th.out.length ocp) ∧ w'.cell? ⟨wr.heap.size, 12, none⟩ = some (.int .u8 x.th.fin)) (refine ⟨?_, ?_⟩ <;> first | assumption | exact r11 _ _ | exact r12 _ _ | simp only [World.cell?_drew, *]) (first | (go_at_call 107; refine (cloneInts_any (w := w7.drew) HOUT7.out HON.out).mono ?_; rintro e8 w8 ⟨cv, rfl, ho8, hb8⟩; obtain ⟨co8, cc8, rfl⟩ := ownsRow_shape ho8; have q11 := (World.cell?_of_block (w := w7) (hb8.block _ (World.block_lt_of_cell? w7 _ p11))).trans p11; have q12 := (World.cell?_of_block (w := w7) (hb8.block _ (World.block_lt_of_cell? w7 _ p12))).trans p12; have hbk8 := (hb8.block w.heap.size (by exact lt_of_block HBK7.out)).trans HBK7.out; have d0 : w8.cell? ⟨w.heap.size, k * 2, none⟩ = some (Value.slice none 0 0) := (cell_of_block hbk8 (by have hA9 := HL2.out; rw [List.getElem?_toArray, List.getElem?_append_right (by omega)]; simp [hA9])); have d1 : w8.cell? ⟨w.heap.size, k * 2 + 1, none⟩ = some (Value.int .u8 0) := (cell_of_block hbk8 (by have hA9 := HL2.out; rw [List.getElem?_toArray, List.getElem?_append_right (by omega)]; simp [hA9])); have f0 := free_of_block (o := k * 2) hbk8; have f1 := free_of_block (o := k * 2 + 1) hbk8; have r11 := fun u v => seen_other (k := k) HNE.out q11 u v; have r12 := fun u v => seen_other (k := k) HNE.out q12 u v; have HK8 := hidI hbk8; have HO8 := hidI ho8; have HB8 := hidI hb8; clear hbk8 ho8 hb8))
      go_wp2_with fail
      have hb8w : Below wr.heap.size wr w8 := HB7.out.drew.trans ((HB8.out).mono (by have := HB7.out.size; exact this))
      have hbw8 : Below w.heap.size w w8 := HBW.out.trans (hb8w.mono HBW.out.size)
      have hkeep : ∀ g, g ≠ w.heap.size → ((w8.setCell ⟨w.heap.size, k * 2, none⟩ (.slice co8 x.th.out.length cc8)).setCell ⟨w.heap.size, k * 2 + 1, none⟩ (.int .u8 x.th.fin)).heap[g]? = w8.heap[g]? := fun g hg => (Below.heap_setCell _ _ _ _ hg).trans (Below.heap_setCell _ _ _ _ hg)
      refine ⟨⟨k + 1, by omega, by go_num, ⟨ls ++ [⟨.slice co8 x.th.out.length cc8, x.th.out, x.th.fin⟩], by simp [HLS.out], ?_, fun s hs => ?_, ?_, ?_, (hbw8.setCell (Nat.le_refl _) _).setCell (Nat.le_refl _) _⟩⟩, by simp [intOf]; omega⟩
      · rw [← HRR.out, List.flatMap_append]
        have e : ([(⟨.slice co8 x.th.out.length cc8, x.th.out, x.th.fin⟩ : SX)]).flatMap encS = [.slice co8 x.th.out.length cc8, .int .u8 x.th.fin] := rfl
        rw [e, List.append_assoc, List.cons_append, List.cons_append, List.nil_append, ← set2Seen (ls.flatMap encS) R (Value.slice none 0 0) (Value.int .u8 0) _ _ _ HL2.out]
        exact block_setCell _ (block_setCell _ HK8.out)
      · rcases List.mem_append.1 hs with hs | hs
        · have h1 := HEA.out s hs
          exact ⟨ownRow_keep h1.1 fun g hg hl => (hkeep g (by have := h1.2 g hg; omega)).trans (hb8w.block g hl), h1.2⟩
        · rw [List.mem_singleton.1 hs]
          have h1 : ∀ g, (Value.slice co8 x.th.out.length cc8).ownBlock = some g → w.heap.size < g := fun g hg => by
            have h2 := (rowLt HO8.out hg).1
            have h3 : wr.heap.size ≤ w7.drew.heap.size := HB7.out.size
            omega
          exact ⟨ownRow_keep (ownsRow_mono HO8.out (by have h3 : wr.heap.size ≤ w7.drew.heap.size := HB7.out.size; omega)) fun g hg hl => hkeep g (by have := h1 g hg; omega), h1⟩
      · refine List.pairwise_append.2 ⟨HPW.out, List.pairwise_singleton _ _, fun s hs t ht g hg hg2 => ?_⟩
        rw [List.mem_singleton.1 ht] at hg2
        have h2 := (rowLt HO8.out hg2).1
        have h3 : wr.heap.size ≤ w7.drew.heap.size := HB7.out.size
        have h4 := (rowLt (HEA.out s hs).1 hg).2
        omega
      · rw [List.map_append, HMA.out, List.take_add_one, HX.out, List.map_append]
        rfl
    · obtain rfl : k = xs.length := by omega
      go_wp2_with fail
      go_ret
      rw [Nat.sub_self] at hblk
      simp only [List.replicate_zero, List.flatten_nil, List.append_nil] at hblk
      rw [List.take_length] at hma
      have hl2 : (ls.flatMap encS).length = xs.length * 2 := by rw [flat_len encS_len, hls]
      have hx4 : xs.length ≤ 4 := h4
      refine ⟨ls, by rw [hls]; rfl, own_of_full hblk (Nat.le_refl _) (by unfold maxLen; omega) (by rw [hl2, hls]), hea, hpw, ?_, hbw⟩
      rw [hma, H.out.same]
      simp
theorem seen_own {N : Nat} (h : MLive w base b mm N) (hN : N ≤ 1000000000) :
    Calls Tryz.prog 68 #[.pointer (some ⟨b, 0, none⟩)] w (SeenOwn mm w) := by
  obtain ⟨own, xs, mv, tv, ev, hm, hl, hk⟩ := h
  refine seen_own0 hm (by rw [← ths_len hm.same]; exact hk.four) fun x hx => ?_
  have := hk.th x.th (by rw [hm.same]; exact List.mem_map_of_mem hx)
  exact Nat.le_trans this.out hN
end Go.Proofs.YtopdcjimpdalpaaGreat

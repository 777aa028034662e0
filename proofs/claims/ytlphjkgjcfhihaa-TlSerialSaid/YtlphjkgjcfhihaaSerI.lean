/- turnstileref29: Sorted, the walk. (Written by mkserh.py.) -/
import Derived.Test.YtlphjkgjcfhihaaSerH
namespace Go.Proofs.Ytlphjkgjcfhihaa
open Go.RowKit
set_option linter.unusedVariables false
set_option linter.unusedSimpArgs false

variable {w w' : World}

theorem ahead_val {a b : Att} {da db : Value} {v : Bool} (h : ahead a b = v) :
    Calls Try.prog 35 #[(.agg #[.int .i64 a.th, .int .u8 a.kind, .int .i64 a.beg, .int .i64 a.fin, .int .i64 a.clock, .int .i64 a.place, .bool a.writer, da]), (.agg #[.int .i64 b.th, .int .u8 b.kind, .int .i64 b.beg, .int .i64 b.fin, .int .i64 b.clock, .int .i64 b.place, .bool b.writer, db])] w fun e w' => e = .returned (.bool v) ∧ Below w.heap.size w w' := by
  subst h
  exact ahead_any a b da db

theorem zs_len (l : List Nat) : (zs l).length = l.length := List.length_map _
/-- the order's list in memory of its own -/
def OrdAt (w : World) (base : Nat) (ao : Option Addr) (c : Nat) (out : List Nat) : Prop := w.ownsRow base 3 1 (.slice ao out.length c) out.length ((zs out).flatMap encZ)
theorem OrdAt.rd {base c : Nat} {ao : Option Addr} {out : List Nat} (h : OrdAt w base ao c out) : RdT encZ w 1 (.slice ao (zs out).length c) (zs out) := by
  have := Rd.of_own h
  unfold RdT
  rw [show (zs out).length = out.length from List.length_map _]
  exact this

set_option maxRecDepth 100000 in
set_option maxHeartbeats 8000000 in
theorem sorted_any {ao : Option Addr} {cap : Nat} {ps : List (Att × Value)} (h : AttsR w (.slice ao ps.length cap) ps) (hlen : ps.length ≤ 262144) :
    Calls Try.prog 21 #[.slice ao ps.length cap] w fun e w' => ∃ oo oc, e = .returned (.slice oo (sortI (ps.map Prod.fst)).length oc) ∧ OrdAt w' w.heap.size oo oc (sortI (ps.map Prod.fst)) ∧ Below w.heap.size w w' := by
  have H := hidI h
  clear h
  have HN : Hid (∀ (j : Nat) p, ps[j]? = some p → attN (ps.map Prod.fst) j = p.1) := hidI (fun j p hp => by unfold attN; rw [List.getElem?_map, hp]; rfl)
  obtain ⟨i0, hi, hz0, hz1, hz2⟩ := info_parts intInfo
  go_enter Try.func21, Try.ntmps21
  go_wp2_with fail
  go_loopw [3, 4] (fun v i wr => ∃ (k : Nat) (oo : Option Addr) (oc : Nat), k ≤ ps.length ∧ v = .slice oo (sortN (ps.map Prod.fst) k).length oc ∧ i = .int .i64 (k : Int) ∧ Hid (OrdAt wr w.heap.size oo oc (sortN (ps.map Prod.fst) k)) ∧ Hid (Below w.heap.size w wr)) (fun _ i _ => ((ps.length : Int) - intOf i).toNat)
  case atStart => exact ⟨0, none, 0, by omega, rfl, rfl, hidI (show OrdAt w w.heap.size none 0 [] from World.ownsRow_nil _ _ _ _), hidI (Below.refl _ _)⟩
  case round =>
    obtain ⟨k, oo, oc, hk, rfl, rfl, HO, HW⟩ := hrel
    by_cases hlt : k < ps.length
    · obtain ⟨⟨p, dv⟩, hp⟩ := some_at hlt
      have hpn := HN.out k _ hp
      simp only at hpn
      have hrow := Rd.below H.out.row HW.out
      obtain ⟨b, off, rfl, hs1, hc⟩ := RdT.at (enc := enc2) enc2_len hrow hp
      have x1 := hc 1 _ rfl
      by_cases hkd : p.kind = 1
      · have HS := hidI (show sortN (ps.map Prod.fst) (k + 1) = insN (ps.map Prod.fst) k (sortN (ps.map Prod.fst) k) from by
          show (if (attN (ps.map Prod.fst) k).kind = 1 then _ else _) = _
          rw [hpn, if_pos hkd])
        have hol := sortN_len (ps.map Prod.fst) k
        have HLT := hidI (sortN_lt (ps.map Prod.fst) k)
        have HC := hidI hc
        obtain ⟨out, hout⟩ : ∃ out, out = sortN (ps.map Prod.fst) k := ⟨_, rfl⟩
        rw [← hout] at HO HS hol HLT ⊢
        have HOUT := hidI hout
        have HPN := hidI hpn
        clear hout hrow hc hs1 hp hpn
        have hkd' : (p.kind != 1) = false := by rw [hkd]; rfl
        go_wp2_with fail
        clear x1 hkd hkd'
        obtain ⟨wq, hwq⟩ : ∃ wq, wq = wr := ⟨_, rfl⟩
        subst hwq
        go_loopw [5] (fun a wr => ∃ r : Nat, r ≤ out.length ∧ a = .int .i64 (r : Int) ∧ Hid (posTo p (out.map (attN (ps.map Prod.fst))) r = posTo p (out.map (attN (ps.map Prod.fst))) out.length) ∧ Hid (Below wq.heap.size wq wr)) (fun a _ => (intOf a).toNat)
        case atStart => exact ⟨out.length, Nat.le_refl _, rfl, hidI rfl, hidI (Below.refl _ _)⟩
        case round =>
          obtain ⟨r, hr, rfl, HP, HQ⟩ := hrel
          by_cases hr0 : r = 0
          · subst hr0
            have HPOS := hidI (show posTo p (out.map (attN (ps.map Prod.fst))) out.length = 0 from HP.out.symm)
            clear HP
            go_wp2_with fail
            refine wp_region_grow (by kernel_rfl) (by kernel_rfl) ?_
            repeat (go_big_quiet_step (fail))
            refine wpQuiet_nil ?_
            intro wU hb
            have HU := hidI (HQ.out.trans (hb.mono HQ.out.size))
            clear hb HQ
            have HOU := hidI (ownsRow_chg HO.out (Chg.of_below (S := fun _ => False) HU.out) (fun _ _ => id))
            have hz3 := zs_len out
            go_wp2_with (at_builtin; refine wpList_append_d _ rfl _ _ 45 rfl w.heap.size 3 i0 _ 1 8 Try.underlying45 hi hz0 hz1 hz2 rfl (by decide) _ _ _ rfl (ownsRow_chg HOU.out ((Chg.refl (fun _ => False) wU).alloc _) (fun _ _ => id)) ⟨wU.heap.size, 0, none⟩ 1 1 (encZ 0) rfl rfl ?c1 ?c2 ?c3 ?c4 ?c5 ?_)
            case c1 => exact news_at (block_new _ _)
            case c2 => intro u hu; simp [encZ] at hu; subst hu; rfl
            case c3 => unfold maxLen; omega
            case c4 => omega
            case c5 => have := HU.out.size; have := HW.out.size; simp; omega
            intro ao9 c9 w9 hown hfrom hgrown
            have hc9 := Chg.grown (S := fun j => (Value.slice oo out.length oc).ownBlock = some j) ((Chg.refl _ wU).alloc _) hgrown (fun j hj => .inl hj)
            have HWU := hidI (HW.out.trans (HU.out.mono HW.out.size))
            have HB9 := hidI (hc9.below HWU.out HWU.out.size (fun j hj => (HO.out.lt j hj).1))
            obtain ⟨g, cur, rfl, hgb, -, -, -⟩ := ownsRow_some hown (by omega)
            have HG := hidI hgb
            have HR9 := hidI (show w9.ownsRow w.heap.size 3 1 (.slice (some ⟨g, 0, none⟩) (out.length + 1) c9) (out.length + 1) ((zs (sh out out.length)).flatMap encZ) from by rw [sh_start]; unfold zs; rw [List.map_append, List.flatMap_append]; exact hown)
            clear hown hfrom hgrown hc9 hgb
            go_wp2_with fail
            go_loopw [6] (fun c wr => ∃ c' : Nat, 0 ≤ c' ∧ c' ≤ out.length ∧ c = .int .i64 (c' : Int) ∧ Hid (wr.ownsRow w.heap.size 3 1 (.slice (some ⟨g, 0, none⟩) (out.length + 1) c9) (out.length + 1) ((zs (sh out c')).flatMap encZ)) ∧ Hid (Below w.heap.size w wr)) (fun c _ => (intOf c).toNat)
            case atStart => exact ⟨out.length, by omega, Nat.le_refl _, by go_num, HR9, HB9⟩
            case round =>
              obtain ⟨c, hc1, hc2, rfl, HR, HB⟩ := hrel
              have hshl := sh_len out hc2
              by_cases hcp : 0 < c
              · obtain ⟨c, rfl⟩ : ∃ q, c = q + 1 := ⟨c - 1, by omega⟩
                obtain ⟨v, hv⟩ := some_at (l := out) (k := c) (by omega)
                obtain ⟨g', cur, hg', -, hgb, hcap, hcells⟩ := ownsRow_some HR.out (by omega)
                simp only [Option.some.injEq, Addr.mk.injEq, and_true] at hg'
                subst hg'
                have r1 : wr.cell? ⟨g, c, none⟩ = some (.int .i64 (v : Int)) := cell_of_block hgb (hcells c _ (by rw [flat_encZ]; unfold zs; rw [List.getElem?_map, List.getElem?_map, sh_at out (by omega) rfl, hv]; rfl))
                obtain ⟨u9, hu9⟩ := some_at (l := sh out (c + 1)) (k := c + 1) (by omega)
                have r2 : wr.cell? ⟨g, c + 1, none⟩ = some (.int .i64 (u9 : Int)) := cell_of_block hgb (hcells (c + 1) _ (by rw [flat_encZ]; unfold zs; rw [List.getElem?_map, List.getElem?_map, hu9]; rfl))
                have r3 : wr.frozen? ⟨g, c + 1, none⟩ = false := free_of_block hgb
                have hj1 : ((c : Int) + 1) - 1 = (c : Int) := by omega
                have hg0 : (0 : Int) < (c : Int) + 1 := by omega
                have HRS := hidI (show (wr.setCell ⟨g, c + 1, none⟩ (.int .i64 (v : Int))).ownsRow w.heap.size 3 1 (.slice (some ⟨g, 0, none⟩) (out.length + 1) c9) (out.length + 1) ((zs (sh out c)).flatMap encZ) from by
                  have := row_set (o := c + 1) HR.out (.int .i64 (v : Int))
                  rw [zs_set, sh_step out (by omega) hv] at this
                  exact this)
                have HBS := hidI (HB.out.setCell (p := ⟨g, c + 1, none⟩) (HG.out) (.int .i64 (v : Int)))
                clear hgb hcells hv hu9
                go_wp2_with fail
                exact ⟨⟨c, by omega, by omega, by go_num, HRS, HBS⟩, by simp only [intOf]; omega⟩
              · obtain rfl : c = 0 := by omega
                obtain ⟨g', cur, hg', -, hgb, hcap, hcells⟩ := ownsRow_some HR.out (by omega)
                simp only [Option.some.injEq, Addr.mk.injEq, and_true] at hg'
                subst hg'
                obtain ⟨u9, hu9⟩ := some_at (l := sh out (0)) (k := 0) (by omega)
                have r2 : wr.cell? ⟨g, 0, none⟩ = some (.int .i64 (u9 : Int)) := cell_of_block hgb (hcells (0) _ (by rw [flat_encZ]; unfold zs; rw [List.getElem?_map, List.getElem?_map, hu9]; rfl))
                have r3 : wr.frozen? ⟨g, 0, none⟩ = false := free_of_block hgb
                have hsn : sortN (ps.map Prod.fst) (k + 1) = (sh out (0)).set (0) k := by
                  rw [HS.out, sh_end out (by omega)]
                  unfold insN
                  rw [HPN.out, HPOS.out]
                have hsl : (sortN (ps.map Prod.fst) (k + 1)).length = out.length + 1 := by rw [hsn, List.length_set]; exact hshl
                have HSL := hidI hsl
                have HRS := hidI (show OrdAt (wr.setCell ⟨g, 0, none⟩ (.int .i64 (k : Int))) w.heap.size (some ⟨g, 0, none⟩) c9 (sortN (ps.map Prod.fst) (k + 1)) from by
                  have := row_set (o := 0) HR.out (.int .i64 (k : Int))
                  rw [zs_set, ← hsn] at this
                  unfold OrdAt
                  rw [hsl]
                  exact this)
                have HBS := hidI (HB.out.setCell (p := ⟨g, 0, none⟩) (HG.out) (.int .i64 (k : Int)))
                clear hgb hcells hu9 hsn hsl
                go_wp2_with fail
                exact ⟨⟨k + 1, some ⟨g, 0, none⟩, c9, by omega, by rw [HSL.out], by go_num, HRS, HBS⟩, by simp [intOf]; omega⟩
          · obtain ⟨r, rfl⟩ : ∃ q, r = q + 1 := ⟨r - 1, by omega⟩
            obtain ⟨j, hj⟩ := some_at (l := out) (k := r) (by omega)
            have hjk := HLT.out j (List.mem_of_getElem? hj)
            obtain ⟨⟨q, du⟩, hq⟩ := some_at (l := ps) (k := j) (by omega)
            have hqn := HN.out j _ hq
            simp only at hqn
            have hmj : (out.map (attN (ps.map Prod.fst)))[r]? = some q := by rw [List.getElem?_map, hj]; simp [hqn]
            obtain ⟨b2, off2, e2, hs2, hc2⟩ := RdT.at (enc := enc2) enc2_len (Rd.below H.out.row (HW.out.trans (HQ.out.mono HW.out.size))) hq
            simp only [Option.some.injEq, Addr.mk.injEq, and_true] at e2
            obtain ⟨rfl, rfl⟩ := e2
            obtain ⟨g0, go0, eg, hsg, hcg⟩ := RdT.at encZ_len (Rd.below HO.out.rd HQ.out) (show (zs out)[r]? = some (j : Int) from by unfold zs; rw [List.getElem?_map, hj]; rfl)
            subst eg
            have z0 := fun t => ext_cell (hcg 0 _ rfl) t
            simp only [Nat.mul_one, Nat.add_zero] at z0
            have x0 := fun t => ext_cell (cell_later HQ.out (HC.out 0 _ rfl)) t
            have x1 := fun t => ext_cell (cell_later HQ.out (HC.out 1 _ rfl)) t
            have x2 := fun t => ext_cell (cell_later HQ.out (HC.out 2 _ rfl)) t
            have x3 := fun t => ext_cell (cell_later HQ.out (HC.out 3 _ rfl)) t
            have x4 := fun t => ext_cell (cell_later HQ.out (HC.out 4 _ rfl)) t
            have x5 := fun t => ext_cell (cell_later HQ.out (HC.out 5 _ rfl)) t
            have x6 := fun t => ext_cell (cell_later HQ.out (HC.out 6 _ rfl)) t
            have x7 := fun t => ext_cell (cell_later HQ.out (HC.out 7 _ rfl)) t
            have y0 := fun t => ext_cell (hc2 0 _ rfl) t
            have y1 := fun t => ext_cell (hc2 1 _ rfl) t
            have y2 := fun t => ext_cell (hc2 2 _ rfl) t
            have y3 := fun t => ext_cell (hc2 3 _ rfl) t
            have y4 := fun t => ext_cell (hc2 4 _ rfl) t
            have y5 := fun t => ext_cell (hc2 5 _ rfl) t
            have y6 := fun t => ext_cell (hc2 6 _ rfl) t
            have y7 := fun t => ext_cell (hc2 7 _ rfl) t
            simp only [Nat.add_zero] at x0 y0
            have hj1 : ((r : Int) + 1) - 1 = (r : Int) := by omega
            have hjw : IntKind.i64.wrap (r : Int) = (r : Int) := IntWalk.i64_in _ (by omega)
            have hj0 : (0 : Int) < (r : Int) + 1 := by omega
            have HJ := hidI hj
            clear hc2 hs2 hq hcg hsg hqn hj
            cases hah : ahead p q with
            | true =>
              have HPC := hidI (fun W : World => ahead_val (w := W) (da := dv) (db := du) hah)
              have HP2 := hidI (show posTo p (out.map (attN (ps.map Prod.fst))) r = posTo p (out.map (attN (ps.map Prod.fst))) out.length from by rw [← HP.out, posTo_some hmj, if_pos hah])
              clear hah hmj HP
              go_wp2_with fail
              refine wp_region_grow (by kernel_rfl) (by kernel_rfl) ?_
              repeat (go_big_quiet_step ((first | (go_at_call 35; exact grow_of (HPC.out _)))))
              refine wpQuiet_nil ?_
              intro wU hb
              have HU := hidI (HQ.out.trans (hb.mono HQ.out.size))
              clear hb x0 y0 x1 y1 x2 y2 x3 y3 x4 y4 x5 y5 x6 y6 x7 y7 z0
              go_wp2_with fail
              exact ⟨⟨r, by omega, by go_num, HP2, HU⟩, by simp only [intOf]; omega⟩
            | false =>
              have HPC := hidI (fun W : World => ahead_val (w := W) (da := dv) (db := du) hah)
              have HPOS := hidI (show posTo p (out.map (attN (ps.map Prod.fst))) out.length = r + 1 from by rw [← HP.out, posTo_some hmj, if_neg (by rw [hah]; simp)])
              clear hah hmj HP
              go_wp2_with fail
              refine wp_region_grow (by kernel_rfl) (by kernel_rfl) ?_
              repeat (go_big_quiet_step ((first | (go_at_call 35; exact grow_of (HPC.out _)))))
              refine wpQuiet_nil ?_
              intro wU hb
              have HU := hidI (HQ.out.trans (hb.mono HQ.out.size))
              clear hb x0 y0 x1 y1 x2 y2 x3 y3 x4 y4 x5 y5 x6 y6 x7 y7 z0 HQ
              have HOU := hidI (ownsRow_chg HO.out (Chg.of_below (S := fun _ => False) HU.out) (fun _ _ => id))
              have hz3 := zs_len out
              go_wp2_with (at_builtin; refine wpList_append_d _ rfl _ _ 45 rfl w.heap.size 3 i0 _ 1 8 Try.underlying45 hi hz0 hz1 hz2 rfl (by decide) _ _ _ rfl (ownsRow_chg HOU.out ((Chg.refl (fun _ => False) wU).alloc _) (fun _ _ => id)) ⟨wU.heap.size, 0, none⟩ 1 1 (encZ 0) rfl rfl ?c1 ?c2 ?c3 ?c4 ?c5 ?_)
              case c1 => exact news_at (block_new _ _)
              case c2 => intro u hu; simp [encZ] at hu; subst hu; rfl
              case c3 => unfold maxLen; omega
              case c4 => omega
              case c5 => have := HU.out.size; have := HW.out.size; simp; omega
              intro ao9 c9 w9 hown hfrom hgrown
              have hc9 := Chg.grown (S := fun j => (Value.slice (some ⟨g0, go0, none⟩) out.length oc).ownBlock = some j) ((Chg.refl _ wU).alloc _) hgrown (fun j hj => .inl hj)
              have HWU := hidI (HW.out.trans (HU.out.mono HW.out.size))
              have HB9 := hidI (hc9.below HWU.out HWU.out.size (fun j hj => (HO.out.lt j hj).1))
              obtain ⟨g, cur, rfl, hgb, -, -, -⟩ := ownsRow_some hown (by omega)
              have HG := hidI hgb
              have HR9 := hidI (show w9.ownsRow w.heap.size 3 1 (.slice (some ⟨g, 0, none⟩) (out.length + 1) c9) (out.length + 1) ((zs (sh out out.length)).flatMap encZ) from by rw [sh_start]; unfold zs; rw [List.map_append, List.flatMap_append]; exact hown)
              clear hown hfrom hgrown hc9 hgb
              go_wp2_with fail
              go_loopw [6] (fun c wr => ∃ c' : Nat, r + 1 ≤ c' ∧ c' ≤ out.length ∧ c = .int .i64 (c' : Int) ∧ Hid (wr.ownsRow w.heap.size 3 1 (.slice (some ⟨g, 0, none⟩) (out.length + 1) c9) (out.length + 1) ((zs (sh out c')).flatMap encZ)) ∧ Hid (Below w.heap.size w wr)) (fun c _ => (intOf c).toNat)
              case atStart => exact ⟨out.length, by omega, Nat.le_refl _, by go_num, HR9, HB9⟩
              case round =>
                obtain ⟨c, hc1, hc2, rfl, HR, HB⟩ := hrel
                have hshl := sh_len out hc2
                by_cases hcp : r + 1 < c
                · obtain ⟨c, rfl⟩ : ∃ q, c = q + 1 := ⟨c - 1, by omega⟩
                  obtain ⟨v, hv⟩ := some_at (l := out) (k := c) (by omega)
                  obtain ⟨g', cur, hg', -, hgb, hcap, hcells⟩ := ownsRow_some HR.out (by omega)
                  simp only [Option.some.injEq, Addr.mk.injEq, and_true] at hg'
                  subst hg'
                  have r1 : wr.cell? ⟨g, c, none⟩ = some (.int .i64 (v : Int)) := cell_of_block hgb (hcells c _ (by rw [flat_encZ]; unfold zs; rw [List.getElem?_map, List.getElem?_map, sh_at out (by omega) rfl, hv]; rfl))
                  obtain ⟨u9, hu9⟩ := some_at (l := sh out (c + 1)) (k := c + 1) (by omega)
                  have r2 : wr.cell? ⟨g, c + 1, none⟩ = some (.int .i64 (u9 : Int)) := cell_of_block hgb (hcells (c + 1) _ (by rw [flat_encZ]; unfold zs; rw [List.getElem?_map, List.getElem?_map, hu9]; rfl))
                  have r3 : wr.frozen? ⟨g, c + 1, none⟩ = false := free_of_block hgb
                  have hj1 : ((c : Int) + 1) - 1 = (c : Int) := by omega
                  have hg0 : (r : Int) + 1 < (c : Int) + 1 := by omega
                  have HRS := hidI (show (wr.setCell ⟨g, c + 1, none⟩ (.int .i64 (v : Int))).ownsRow w.heap.size 3 1 (.slice (some ⟨g, 0, none⟩) (out.length + 1) c9) (out.length + 1) ((zs (sh out c)).flatMap encZ) from by
                    have := row_set (o := c + 1) HR.out (.int .i64 (v : Int))
                    rw [zs_set, sh_step out (by omega) hv] at this
                    exact this)
                  have HBS := hidI (HB.out.setCell (p := ⟨g, c + 1, none⟩) (HG.out) (.int .i64 (v : Int)))
                  clear hgb hcells hv hu9
                  go_wp2_with fail
                  exact ⟨⟨c, by omega, by omega, by go_num, HRS, HBS⟩, by simp only [intOf]; omega⟩
                · obtain rfl : c = r + 1 := by omega
                  obtain ⟨g', cur, hg', -, hgb, hcap, hcells⟩ := ownsRow_some HR.out (by omega)
                  simp only [Option.some.injEq, Addr.mk.injEq, and_true] at hg'
                  subst hg'
                  obtain ⟨u9, hu9⟩ := some_at (l := sh out (r + 1)) (k := r + 1) (by omega)
                  have r2 : wr.cell? ⟨g, r + 1, none⟩ = some (.int .i64 (u9 : Int)) := cell_of_block hgb (hcells (r + 1) _ (by rw [flat_encZ]; unfold zs; rw [List.getElem?_map, List.getElem?_map, hu9]; rfl))
                  have r3 : wr.frozen? ⟨g, r + 1, none⟩ = false := free_of_block hgb
                  have hsn : sortN (ps.map Prod.fst) (k + 1) = (sh out (r + 1)).set (r + 1) k := by
                    rw [HS.out, sh_end out (by omega)]
                    unfold insN
                    rw [HPN.out, HPOS.out]
                  have hsl : (sortN (ps.map Prod.fst) (k + 1)).length = out.length + 1 := by rw [hsn, List.length_set]; exact hshl
                  have HSL := hidI hsl
                  have HRS := hidI (show OrdAt (wr.setCell ⟨g, r + 1, none⟩ (.int .i64 (k : Int))) w.heap.size (some ⟨g, 0, none⟩) c9 (sortN (ps.map Prod.fst) (k + 1)) from by
                    have := row_set (o := r + 1) HR.out (.int .i64 (k : Int))
                    rw [zs_set, ← hsn] at this
                    unfold OrdAt
                    rw [hsl]
                    exact this)
                  have HBS := hidI (HB.out.setCell (p := ⟨g, r + 1, none⟩) (HG.out) (.int .i64 (k : Int)))
                  clear hgb hcells hu9 hsn hsl
                  go_wp2_with fail
                  exact ⟨⟨k + 1, some ⟨g, 0, none⟩, c9, by omega, by rw [HSL.out], by go_num, HRS, HBS⟩, by simp [intOf]; omega⟩
      · have hkd' : (p.kind != 1) = true := by simpa using hkd
        have HS := hidI (show sortN (ps.map Prod.fst) (k + 1) = sortN (ps.map Prod.fst) k from by
          show (if (attN (ps.map Prod.fst) k).kind = 1 then _ else _) = _
          rw [hpn, if_neg hkd])
        clear hrow hc hs1 hp hpn
        go_wp2_with fail
        exact ⟨⟨k + 1, oo, oc, by omega, by rw [HS.out], by go_num, by rw [HS.out]; exact HO, HW⟩, by simp [intOf]; omega⟩
    · obtain rfl : k = ps.length := by omega
      have hsi : sortI (ps.map Prod.fst) = sortN (ps.map Prod.fst) ps.length := by unfold sortI; rw [List.length_map]
      have HSI := hidI hsi
      clear hsi
      go_wp2_with fail
      go_ret
      rw [HSI.out]
      exact ⟨oo, oc, rfl, HO.out, HW.out⟩
end Go.Proofs.Ytlphjkgjcfhihaa

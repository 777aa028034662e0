/- turnstileref29: Words. (Written by mkserv.py.) -/
import Derived.Test.YtlphjkgjcfhihaaMSerX
import Derived.BigRegion
import Derived.BigQuiet
namespace Go.Proofs.Ytlphjkgjcfhihaa
open Go.RowKit
set_option linter.unusedVariables false
set_option linter.unusedSimpArgs false

variable {w w' : World}

/-- what Words answers -/
def WordsPost (l : List Att) (w : World) (e : Ending) (w' : World) : Prop := ∃ (co : Option Addr) (cc : Nat) (cells cells' : List (Int × Int)), e = .returned (.tuple #[.slice co cells'.length cc, .int .i64 0]) ∧ RdT encCell w' 2 (.slice co cells'.length cc) cells' ∧ LogOf (wrsAll (sortA l)) cells ∧ (∀ c, c ∈ cells' ↔ c ∈ cells) ∧ cells'.length = cells.length ∧ cells'.length ≤ 131072 ∧ Below w.heap.size w w'
theorem wrsAll_next {l : List Att} {k : Nat} {a : Att} (h : l[k]? = some a) : wrsAll (l.take (k + 1)) = wrsAll (l.take k) ++ wrs a.done := by unfold wrsAll; rw [take_snoc h, List.flatMap_append]; simp
theorem wrs_next {l : List Ev} {k : Nat} {e : Ev} (h : l[k]? = some e) : wrs (l.take (k + 1)) = wrs (l.take k) ++ wrs [e] := by unfold wrs; rw [take_snoc h, List.filter_append]
theorem wrs_len (l : List Ev) : (wrs l).length ≤ l.length := List.length_filter_le _ _

theorem HeapAt.chg {base hb : Nat} {v : Value} {cells : List (Int × Int)} {S : Nat → Prop} (h : HeapAt w base hb v cells) (hc : Chg S w w') (h1 : ¬ S hb) (h2 : ∀ g, v.ownBlock = some g → ¬ S g) : HeapAt w' base hb v cells :=
  ⟨chgblk hc h.blk h1, h.low, ownsRow_chg h.row hc h2, h.ne⟩

/-- how the cells stand while they are sorted in place: some order of what they were -/
structure SortAt (w2 : World) (bh : Nat) (ao : Option Addr) (n cap : Nat) (cells cs : List (Int × Int)) (w : World) : Prop where
  at_ : HeapAt w bh bh (.slice ao n cap) cs
  len : cs.length = n
  mem : ∀ c, c ∈ cs ↔ c ∈ cells
  low : Below w2.heap.size w2 w
  base : w2.heap.size = bh

/-- the two cells that may change their places, as the walk wants them -/
structure SwapAt (w : World) (g m j : Nat) (a b : Int × Int) : Prop where
  a0 : w.cell? ⟨g, m * 2, none⟩ = some (.int .i64 a.1)
  a1 : w.cell? ⟨g, m * 2 + 1, none⟩ = some (.int .i64 a.2)
  b0 : w.cell? ⟨g, j * 2, none⟩ = some (.int .i64 b.1)
  b1 : w.cell? ⟨g, j * 2 + 1, none⟩ = some (.int .i64 b.2)
  f : ∀ o, w.frozen? ⟨g, o, none⟩ = false

/-- the world behind the exchange -/
def swapW (w : World) (g m j : Nat) (a b : Int × Int) : World := (((w.setCell ⟨g, j * 2, none⟩ (.int .i64 a.1)).setCell ⟨g, j * 2 + 1, none⟩ (.int .i64 a.2)).setCell ⟨g, m * 2, none⟩ (.int .i64 b.1)).setCell ⟨g, m * 2 + 1, none⟩ (.int .i64 b.2)

theorem flat_set2 (cells : List (Int × Int)) {k : Nat} (hk : k < cells.length) (x y : Int) : ((cells.flatMap encCell).set (k * 2) (.int .i64 x)).set (k * 2 + 1) (.int .i64 y) = (cells.set k (x, y)).flatMap encCell := by
  rw [flatPut encCell_len cells k _ hk]
  have hl := flat_len encCell_len cells
  refine List.ext_getElem? fun j => ?_
  rw [List.append_assoc]
  rcases Nat.lt_or_ge j (k * 2) with q | q
  · rw [List.getElem?_set_ne (by omega), List.getElem?_set_ne (by omega), List.getElem?_append_left (by rw [List.length_take]; omega), List.getElem?_take_of_lt q]
  · rw [List.getElem?_append_right (by rw [List.length_take]; omega), List.length_take, Nat.min_eq_left (by omega)]
    by_cases e0 : j = k * 2
    · subst e0
      rw [List.getElem?_set_ne (by omega), List.getElem?_set_self (by omega), Nat.sub_self]
      rfl
    · by_cases e1 : j = k * 2 + 1
      · subst e1
        rw [List.getElem?_set_self (by rw [List.length_set]; omega), show k * 2 + 1 - k * 2 = 1 from by omega]
        rfl
      · rw [List.getElem?_set_ne (fun q => e1 q.symm), List.getElem?_set_ne (fun q => e0 q.symm), List.getElem?_append_right (by show 2 ≤ _; omega), List.getElem?_drop]
        congr 1
        show j = k * 2 + 2 + (j - k * 2 - 2)
        omega
/-- two neighbours that are told -/
theorem SortAt.two {w2 : World} {bh n cap j m : Nat} {ao : Option Addr} {cells cs : List (Int × Int)} (h : SortAt w2 bh ao n cap cells cs w) (hj : j < n) (hm : j = m + 1) :
    ∃ g a b, ao = some ⟨g, 0, none⟩ ∧ cs[m]? = some a ∧ cs[j]? = some b ∧ g ≠ bh ∧ bh ≤ g ∧ SwapAt w g m j a b := by
  obtain ⟨a, ha⟩ := some_at (l := cs) (k := m) (by have := h.len; omega)
  obtain ⟨b, hb⟩ := some_at (l := cs) (k := j) (by have := h.len; omega)
  have hr := h.at_.row
  rw [← h.len] at hr
  obtain ⟨g, cur, hao, hbg, hgb, hcap, hcells⟩ := ownsRow_some (n := cs.length) (by rw [h.len] at hr ⊢; exact hr) (by have := h.len; omega)
  refine ⟨g, a, b, hao, ha, hb, h.at_.ne g (by rw [hao]; rfl), hbg, ?_⟩
  exact ⟨cell_of_block hgb (by have := hcells _ _ (flat_at encCell_len cs ha 0 _ rfl); simpa using this), cell_of_block hgb (hcells _ _ (flat_at encCell_len cs ha 1 _ rfl)), cell_of_block hgb (by have := hcells _ _ (flat_at encCell_len cs hb 0 _ rfl); simpa using this), cell_of_block hgb (hcells _ _ (flat_at encCell_len cs hb 1 _ rfl)), fun o => free_of_block hgb⟩
/-- behind the exchange -/
theorem SortAt.swap {w2 : World} {bh n cap j m g : Nat} {cells cs : List (Int × Int)} {a b : Int × Int} (h : SortAt w2 bh (some ⟨g, 0, none⟩) n cap cells cs w) (hj : j < n) (hm : j = m + 1) (ha : cs[m]? = some a) (hb : cs[j]? = some b) (hg : g ≠ bh) (hbg : bh ≤ g) :
    SortAt w2 bh (some ⟨g, 0, none⟩) n cap cells (swapC cs m) (swapW w g m j a b) := by
  have hl := h.len
  have hs : swapC cs m = (cs.set j a).set m b := by rw [swapC_some ha (by rw [← hm]; exact hb), hm]
  refine ⟨⟨?_, h.at_.low, ?_, h.at_.ne⟩, by rw [swapC_len, hl], fun c => by rw [swapC_mem]; exact h.mem c, ?_, h.base⟩
  · have hg' : bh ≠ g := fun q => hg q.symm
    exact block_other (block_other (block_other (block_other h.at_.blk hg') hg') hg') hg'
  · have hr := row_set (o := m * 2 + 1) (row_set (o := m * 2) (row_set (o := j * 2 + 1) (row_set (o := j * 2) (show w.ownsRow bh 42 2 (.slice (some ⟨g, 0, none⟩) n cap) n (cs.flatMap encCell) from by have := h.at_.row; rw [hl] at this; exact this) (.int .i64 a.1)) (.int .i64 a.2)) (.int .i64 b.1)) (.int .i64 b.2)
    rw [flat_set2 cs (by omega), flat_set2 _ (by rw [List.length_set]; omega)] at hr
    rw [swapC_len, hl, hs]
    exact hr
  · have hw : w2.heap.size ≤ g := by rw [h.base]; exact hbg
    exact (((h.low.setCell (p := ⟨g, j * 2, none⟩) hw _).setCell (p := ⟨g, j * 2 + 1, none⟩) hw _).setCell (p := ⟨g, m * 2, none⟩) hw _).setCell (p := ⟨g, m * 2 + 1, none⟩) hw _
theorem SortAt.drew {w2 : World} {bh n cap k : Nat} {ao : Option Addr} {cells cs : List (Int × Int)} (h : SortAt w2 bh ao n cap cells cs w) : SortAt w2 bh ao n cap cells cs (w.drewN k) :=
  ⟨h.at_.below (below_drewN (Below.refl _ _) k), h.len, h.mem, below_drewN h.low k, h.base⟩

set_option maxRecDepth 100000 in
set_option maxHeartbeats 16000000 in
theorem words29_any {ao : Option Addr} {cap : Nat} {ps : List (Att × Value)} (h : AttsR w (.slice ao ps.length cap) ps) (hg : GotOk ps) :
    Calls Try.prog 10 #[.slice ao ps.length cap] w (WordsPost (ps.map Prod.fst) w) := by
  have H := hidI h
  have HG := hidI hg
  have HLEN := hidI hg.len
  clear h hg
  have hlen := HLEN.out
  go_enter Try.func10, Try.ntmps10
  go_wp2_with fail
  refine (may_any H.out HG.out.fine HG.out.inc (by omega) (by have := HG.out.sum; omega)).mono ?_
  rintro e w1 ⟨rfl, hb⟩
  have HB1 := hidI hb
  clear hb
  go_wp2_with fail
  refine (sorted_any (H.out.below HB1.out) (by omega)).mono ?_
  rintro e w2 ⟨oo, oc, rfl, ho, hb⟩
  have HORD := hidI (show RdT encZ w2 1 (.slice oo (sortI (ps.map Prod.fst)).length oc) (zs (sortI (ps.map Prod.fst))) from by have := ho.rd; rw [zs_len] at this; exact this)
  have HB2 := hidI (bnext HB1.out hb)
  have hnl := sortN_len (ps.map Prod.fst) (ps.map Prod.fst).length
  rw [List.length_map] at hnl
  have hn2 : (sortI (ps.map Prod.fst)).length ≤ 131072 := by unfold sortI; rw [List.length_map]; omega
  have HAT := hidI (fun (i j : Nat) (hj : (sortI (ps.map Prod.fst))[i]? = some j) => ord_at hj)
  have HA2 := hidI (H.out.below HB2.out)
  have HSR := hidI (show (sortA (ps.map Prod.fst)).length = (sortI (ps.map Prod.fst)).length from by rw [← sortI_map, List.length_map])
  obtain ⟨ord, hord⟩ : ∃ ord, ord = sortI (ps.map Prod.fst) := ⟨_, rfl⟩
  rw [← hord] at HORD HAT HSR hn2 ⊢
  clear ho hb hnl hord
  go_wp2_with fail
  have HH3 := hidI (show HeapAt (w2.alloc (.cells #[.slice none 0 0] 70)) w2.heap.size w2.heap.size (.slice none 0 0) [] from ⟨block_new _ _, Nat.le_refl _, World.ownsRow_nil _ _ _ _, fun g hg => by simp [Value.ownBlock] at hg⟩)
  have HB3 : Hid (Below w2.heap.size w2 (w2.alloc (.cells #[.slice none 0 0] 70))) := hidI ((Below.refl _ _).alloc (Nat.le_refl _) _)
  generalize w2.alloc (.cells #[.slice none 0 0] 70) = w3 at HH3 HB3 ⊢
  obtain ⟨i0, hi, hz0, hz1, hz2⟩ := info_parts evInfo
  go_loopw [7] (fun i wr => ∃ (k : Nat) (v : Value) (cells : List (Int × Int)), k ≤ ord.length ∧ i = .int .i64 (k : Int) ∧ Hid (HeapAt wr w2.heap.size w2.heap.size v cells) ∧ Hid (LogOf (wrsAll ((sortA (ps.map Prod.fst)).take k)) cells ∧ cells.length ≤ asum ((sortA (ps.map Prod.fst)).take k)) ∧ Hid (Below w2.heap.size w2 wr)) (fun i _ => ((ord.length : Int) - intOf i).toNat)
  case atStart => exact ⟨0, _, [], by omega, rfl, HH3, hidI ⟨LogOf.nil, Nat.zero_le _⟩, HB3⟩
  case round =>
    obtain ⟨k, v, cells, hk, rfl, HH, HL, HW⟩ := hrel
    by_cases hlt : k < ord.length
    · obtain ⟨j, hj⟩ := some_at (l := ord) (k := k) hlt
      obtain ⟨⟨x, dv⟩, hp, hx⟩ := HAT.out k j hj
      simp only at hx
      obtain ⟨dao, dcap, hdv⟩ := Rd.shape (HA2.out.evs _ (List.mem_of_getElem? hp))
      simp only at hdv
      subst hdv
      have HEV := hidI (show ∀ W, Below w2.heap.size w2 W → RdT encEv W 4 (.slice dao x.done.length dcap) x.done from fun W hW => Rd.below (HA2.out.evs _ (List.mem_of_getElem? hp)) hW)
      have HKI := hidI (HG.out.ser.kinds x (((sortA_mem _ _).1 (List.mem_of_getElem? hx)).1))
      have hsum : cells.length + x.done.length ≤ 131072 := by
        have h1 := HL.out.2
        have h2 : asum ((sortA (ps.map Prod.fst)).take (k + 1)) = asum ((sortA (ps.map Prod.fst)).take k) + x.done.length := asum_next hx
        have h3 := asum_take (sortA (ps.map Prod.fst)) (k + 1)
        have h4 := asum_sort (ps.map Prod.fst)
        have h5 : asum (ps.map Prod.fst) = dsum ps := by unfold asum dsum; rw [List.map_map]; rfl
        have h6 := HG.out.sum
        omega
      have HSUM := hidI hsum
      have HNEXT := hidI (show asum ((sortA (ps.map Prod.fst)).take (k + 1)) = asum ((sortA (ps.map Prod.fst)).take k) + x.done.length from asum_next hx)
      have HTAKE := hidI (show wrsAll ((sortA (ps.map Prod.fst)).take (k + 1)) = wrsAll ((sortA (ps.map Prod.fst)).take k) ++ wrs x.done from wrsAll_next hx)
      obtain ⟨oa, oo', eo, hso, hco⟩ := RdT.at encZ_len (Rd.below HORD.out HW.out) (show (zs ord)[k]? = some (j : Int) from by unfold zs; rw [List.getElem?_map, hj]; rfl)
      subst eo
      have z0 := hco 0 _ rfl
      simp only [Nat.mul_one, Nat.add_zero] at z0
      obtain ⟨b, off, rfl, hs1, hc⟩ := RdT.at (enc := enc2) enc2_len (Rd.below HA2.out.row HW.out) hp
      have x0 := hc 0 _ rfl
      have x1 := hc 1 _ rfl
      have x2 := hc 2 _ rfl
      have x3 := hc 3 _ rfl
      have x4 := hc 4 _ rfl
      have x5 := hc 5 _ rfl
      have x6 := hc 6 _ rfl
      have x7 := hc 7 _ rfl
      simp only [Nat.add_zero] at x0
      obtain ⟨th, kind, beg, fin, clock, place', wri, done⟩ := x
      simp only at HKI HEV hsum HSUM HNEXT HTAKE x0 x1 x2 x3 x4 x5 x6 x7
      have hjl : j < ps.length := (List.getElem?_eq_some_iff.1 hp).1
      have hdl : done.length ≤ 131072 := by omega
      have hbx : Below wr.heap.size wr (wr.alloc (.cells #[.int .i64 th, .int .u8 kind, .int .i64 beg, .int .i64 fin, .int .i64 clock, .int .i64 place', .bool wri, .slice dao done.length dcap] 73)) := (Below.refl _ _).alloc (Nat.le_refl _) _
      have HBX := hidI (HW.out.trans (hbx.mono HW.out.size))
      have HHX := hidI (HH.out.below hbx)
      have HBL := hidI (block_new wr (.cells #[.int .i64 th, .int .u8 kind, .int .i64 beg, .int .i64 fin, .int .i64 clock, .int .i64 place', .bool wri, .slice dao done.length dcap] 73))
      clear hc hs1 hco hso hj hp hsum hx hbx
      go_wp2_with fail
      obtain ⟨w8, hw8⟩ : ∃ w8, w8 = wr.alloc (.cells #[.int .i64 th, .int .u8 kind, .int .i64 beg, .int .i64 fin, .int .i64 clock, .int .i64 place', .bool wri, .slice dao done.length dcap] 73) := ⟨_, rfl⟩
      have HW8 := hidI (show wr.heap.size < w8.heap.size from by rw [hw8]; simp)
      rw [← hw8] at HBX HHX HBL ⊢
      clear hw8
      obtain ⟨bx, hbxe⟩ : ∃ bx, bx = wr.heap.size := ⟨_, rfl⟩
      have HNB := hidI (show ¬ (w2.heap.size = wr.heap.size) from by have := lt_of_block HH.out.blk; omega)
      have HNV := hidI (show ∀ g, v.ownBlock = some g → ¬ g = wr.heap.size from fun g hg => by have := (rowLt HH.out.row hg).2; omega)
      have HBG := hidI HW.out.size
      rw [← hbxe] at HBL HW8 HNB HNV HBG ⊢
      clear hbxe
      go_loopw [9, 10] (fun v9 i wq => ∃ (k2 : Nat) (wo : Option Addr) (wc : Nat), k2 ≤ done.length ∧ v9 = .slice wo (wrs (done.take k2)).length wc ∧ i = .int .i64 (k2 : Int) ∧ Hid (wq.ownsRow w8.heap.size 57 4 (.slice wo (wrs (done.take k2)).length wc) (wrs (done.take k2)).length ((wrs (done.take k2)).flatMap encEv)) ∧ Hid (Below w8.heap.size w8 wq)) (fun _ i _ => ((done.length : Int) - intOf i).toNat)
      case atStart => exact ⟨0, none, 0, by omega, rfl, rfl, hidI (World.ownsRow_nil _ _ _ _), hidI (Below.refl _ _)⟩
      case round =>
        obtain ⟨k2, wo, wc, hk2, rfl, rfl, HO, HQ⟩ := hrel
        have hbl := blk HQ.out HBL.out
        have p7 : wr.cell? ⟨bx, 7, none⟩ = some (.slice dao done.length dcap) := cell_of_block hbl rfl
        have hwl : (wrs (done.take k2)).length ≤ 131072 := Nat.le_trans (wrs_len _) (by rw [List.length_take]; omega)
        have HWL := hidI hwl
        clear hbl hwl
        by_cases hlt2 : k2 < done.length
        · obtain ⟨⟨eth, ek, ea, eb⟩, he⟩ := some_at hlt2
          obtain ⟨b3, off3, e3, hs3, hc3⟩ := RdT.at encEv_len (HEV.out _ (HBX.out.trans (HQ.out.mono HBX.out.size))) he
          subst e3
          have v0 := hc3 0 _ rfl
          have v1 := hc3 1 _ rfl
          have v2' := hc3 2 _ rfl
          have v3 := hc3 3 _ rfl
          simp only [Nat.add_zero] at v0
          have hkk := HKI.out _ (List.mem_of_getElem? he)
          simp only at hkk
          have HTK := hidI (wrs_next he)
          clear hc3 hs3 he
          rcases hkk with rfl | rfl
          · have HE := hidI (show wrs (done.take (k2 + 1)) = wrs (done.take k2) from by rw [HTK.out]; simp [wrs])
            go_wp2_with fail
            exact ⟨⟨k2 + 1, wo, wc, by omega, by rw [HE.out], by go_num, by rw [HE.out]; exact HO, HQ⟩, by simp [intOf]; omega⟩
          · have HE := hidI (show wrs (done.take (k2 + 1)) = wrs (done.take k2) ++ [⟨eth, 3, ea, eb⟩] from by rw [HTK.out]; simp [wrs])
            go_wp2_with (at_builtin; refine wpList_append_d _ rfl _ _ 24 rfl w8.heap.size 57 i0 _ 4 32 Try.underlying24 hi hz0 hz1 hz2 rfl (by decide) _ _ _ rfl (ownsRow_chg HO.out ((Chg.refl (fun _ => False) wr).alloc _) (fun _ _ => id)) ⟨wr.heap.size, 0, none⟩ 1 1 (encEv ⟨eth, 3, ea, eb⟩) rfl rfl ?c1 ?c2 ?c3 ?c4 ?c5 ?_)
            case c1 => exact fun j u h => h
            case c2 => exact one_ev _
            case c3 => have := HWL.out; unfold maxLen; omega
            case c4 => have := HWL.out; omega
            case c5 => have := HQ.out.size; simp; omega
            intro ao9 c9 w9 hown hfrom hgrown
            have hc9 := Chg.grown (S := fun j => (Value.slice wo (wrs (done.take k2)).length wc).ownBlock = some j) ((Chg.refl _ wr).alloc _) hgrown (fun j hj => .inl hj)
            have HB9 := hidI (hc9.below HQ.out HQ.out.size (fun j hj => (HO.out.lt j hj).1))
            have HO9 := hidI (show w9.ownsRow w8.heap.size 57 4 (.slice ao9 (wrs (done.take (k2 + 1))).length c9) (wrs (done.take (k2 + 1))).length ((wrs (done.take (k2 + 1))).flatMap encEv) from by rw [HE.out, List.length_append, List.length_singleton, List.flatMap_append]; exact hown)
            clear hown hfrom hgrown hc9
            go_wp2_with fail
            exact ⟨⟨k2 + 1, ao9, c9, by omega, by rw [HE.out, List.length_append]; rfl, by go_num, HO9, HB9⟩, by simp [intOf]; omega⟩
        · obtain rfl : k2 = done.length := by omega
          have hbl := blk HQ.out HBL.out
          have f7 : wr.frozen? ⟨bx, 7, none⟩ = false := free_of_block hbl
          have hset := fun u => block_setCell (o := 7) u hbl
          have HSET := hidI hset
          clear hset hbl
          rw [List.take_length] at HO HWL ⊢
          have q0 : (wr.setCell ⟨bx, 7, none⟩ (.slice wo (wrs done).length wc)).cell? ⟨bx, 0, none⟩ = some (.int .i64 th) := cell_of_block (HSET.out _) rfl
          have q1 : (wr.setCell ⟨bx, 7, none⟩ (.slice wo (wrs done).length wc)).cell? ⟨bx, 1, none⟩ = some (.int .u8 kind) := cell_of_block (HSET.out _) rfl
          have q2 : (wr.setCell ⟨bx, 7, none⟩ (.slice wo (wrs done).length wc)).cell? ⟨bx, 2, none⟩ = some (.int .i64 beg) := cell_of_block (HSET.out _) rfl
          have q3 : (wr.setCell ⟨bx, 7, none⟩ (.slice wo (wrs done).length wc)).cell? ⟨bx, 3, none⟩ = some (.int .i64 fin) := cell_of_block (HSET.out _) rfl
          have q4 : (wr.setCell ⟨bx, 7, none⟩ (.slice wo (wrs done).length wc)).cell? ⟨bx, 4, none⟩ = some (.int .i64 clock) := cell_of_block (HSET.out _) rfl
          have q5 : (wr.setCell ⟨bx, 7, none⟩ (.slice wo (wrs done).length wc)).cell? ⟨bx, 5, none⟩ = some (.int .i64 place') := cell_of_block (HSET.out _) rfl
          have q6 : (wr.setCell ⟨bx, 7, none⟩ (.slice wo (wrs done).length wc)).cell? ⟨bx, 6, none⟩ = some (.bool wri) := cell_of_block (HSET.out _) rfl
          have q7 : (wr.setCell ⟨bx, 7, none⟩ (.slice wo (wrs done).length wc)).cell? ⟨bx, 7, none⟩ = some (.slice wo (wrs done).length wc) := cell_of_block (HSET.out _) rfl
          go_wp2_with fail
          clear q0 q1 q2 q3 q4 q5 q6 q7 f7 p7
          have HCS := hidI (show Chg (fun k => k = bx) wr (wr.setCell ⟨bx, 7, none⟩ (.slice wo (wrs done).length wc)) from (Chg.refl (fun k => k = bx) wr).setCell (p := ⟨bx, 7, none⟩) (.inl rfl) _)
          have HHS := hidI ((HHX.out.below HQ.out).chg HCS.out HNB.out HNV.out)
          have HWS := hidI (show cells.length + (wrs done).length ≤ 262144 from by have := HSUM.out; have := wrs_len done; omega)
          have HRW := hidI (show ∀ W, Chg (fun g => g = w2.heap.size ∨ v.ownBlock = some g) (wr.setCell ⟨bx, 7, none⟩ (.slice wo (wrs done).length wc)) W → RdT encEv W 4 (.slice wo (wrs done).length wc) (wrs done) from fun W hW => Rd.of_own (ownsRow_chg (ownsRow_chg HO.out HCS.out (fun g hg e => by have := (HO.out.lt g hg).1; have := HW8.out; omega)) hW (fun g hg e => by
            have h1 := (HO.out.lt g hg).1
            rcases e with e | e
            · have := lt_of_block HHX.out.blk; omega
            · have := (rowLt HHX.out.row e).2; omega)))
          refine (hdone_any th kind beg fin clock place' wri HHS.out HL.out.1 HRW.out (fun e he => HKI.out e (List.mem_filter.1 he).1) (okRd_writes (fun e he => by have := (List.mem_filter.1 he).2; simp at this; exact this.1) _) HWS.out (by have := HBX.out.size; have := HQ.out.size; simp [World.setCell]; omega)).mono ?_
          rintro e w9 ⟨rfl, v9, cells9, hh9, hl9, hn9, hc9, -⟩
          have HH9 := hidI hh9
          have hbs := (HBX.out.trans (HQ.out.mono HBX.out.size)).setCell (p := ⟨bx, 7, none⟩) HBG.out (.slice wo (wrs done).length wc)
          have HB9 := hidI (hbs.trans (hc9.to_below hbs.size HHS.out.ge))
          have HL9 := hidI (show LogOf (wrsAll ((sortA (ps.map Prod.fst)).take (k + 1))) cells9 ∧ cells9.length ≤ asum ((sortA (ps.map Prod.fst)).take (k + 1)) from ⟨by rw [HTAKE.out]; exact hl9, by rw [HNEXT.out]; have := HL.out.2; have := wrs_len done; omega⟩)
          clear hh9 hl9 hn9 hc9 hbs
          go_wp2_with fail
          exact ⟨⟨k + 1, v9, cells9, by omega, by go_num, HH9, HL9, HB9⟩, by simp [intOf]; omega⟩
    · obtain rfl : k = ord.length := by omega
      have HLA := hidI (show LogOf (wrsAll (sortA (ps.map Prod.fst))) cells ∧ cells.length ≤ 131072 from by
        have h1 := HL.out
        rw [List.take_of_length_le (by have := HSR.out; omega)] at h1
        have h4 := asum_sort (ps.map Prod.fst)
        have h5 : asum (ps.map Prod.fst) = dsum ps := by unfold asum dsum; rw [List.map_map]; rfl
        have h6 := HG.out.sum
        exact ⟨h1.1, by omega⟩)
      obtain ⟨sao, scap, hve⟩ := ownsRow_shape HH.out.row
      subst hve
      have HS0 := hidI (show SortAt w2 w2.heap.size sao cells.length scap cells cells wr from ⟨HH.out, rfl, fun c => Iff.rfl, HW.out, rfl⟩)
      have HN := hidI (show cells.length ≤ 131072 from HLA.out.2)
      obtain ⟨bh, hbh⟩ : ∃ b, b = w2.heap.size := ⟨_, rfl⟩
      obtain ⟨n, hn⟩ : ∃ n, n = cells.length := ⟨_, rfl⟩
      rw [← hbh, ← hn] at HS0
      rw [← hn] at HN
      rw [← hbh]
      have HNC := hidI hn
      clear HL HH HW hbh hn
      go_wp2_with fail
      go_loopw [11] (fun i wz => ∃ (k : Nat) (cs : List (Int × Int)), k ≤ 131073 ∧ i = .int .i64 (k : Int) ∧ Hid (SortAt w2 bh sao n scap cells cs wz)) (fun i _ => ((131074 : Int) - intOf i).toNat)
      case atStart => exact ⟨1, cells, by omega, rfl, HS0⟩
      case round =>
        obtain ⟨k, cs, hk, rfl, HS⟩ := hrel
        have c0 : wr.cell? ⟨bh, 0, none⟩ = some (.slice sao n scap) := cell_of_block HS.out.at_.blk rfl
        by_cases hlt : k < n
        · have hn2 := HN.out
          go_wp2_with fail
          clear c0
          go_loopw [12] (fun i wz => ∃ (j : Nat) (ds : List (Int × Int)), j ≤ k ∧ i = .int .i64 (j : Int) ∧ Hid (SortAt w2 bh sao n scap cells ds wz)) (fun i _ => (intOf i).toNat)
          case atStart => exact ⟨k, cs, by omega, rfl, HS⟩
          case round =>
            obtain ⟨j, ds, hj, rfl, HT⟩ := hrel
            clear HS
            have c0 : wr.cell? ⟨bh, 0, none⟩ = some (.slice sao n scap) := cell_of_block HT.out.at_.blk rfl
            rcases Nat.eq_zero_or_pos j with rfl | hpos
            · go_wp2_with fail
              go_quiet (fail)
              go_wp2_with fail
              exact ⟨⟨k + 1, ds, by omega, by go_num, hidI HT.out.drew⟩, by simp [intOf]; omega⟩
            · obtain ⟨m, hm⟩ : ∃ m, j = m + 1 := ⟨j - 1, by omega⟩
              have hjn : j < n := by omega
              obtain ⟨g, a, b, rfl, ha, hb, hg, hbg, hs⟩ := HT.out.two hjn hm
              obtain ⟨a0, a1, b0, b1, hf⟩ := hs
              obtain ⟨a1', a2'⟩ := a
              obtain ⟨b1', b2'⟩ := b
              simp only at a0 a1 b0 b1
              have HAB := hidI (And.intro ha hb)
              have HM := hidI hm
              have g1 : (0 : Int) < (j : Int) := by omega
              have g2 : (j : Int) < (n : Int) := by omega
              have g3 : (m : Int) < (n : Int) := by omega
              have g4 : IntKind.i64.wrap ((j : Int) - 1) = (m : Int) := by rw [show (j : Int) - 1 = (m : Int) from by omega]; exact IntWalk.i64_in _ (by omega)
              have g5 : ¬ (m : Int) < 0 := by omega
              have g6 : m < n := by omega
              clear ha hb hm
              by_cases hc : b1' < a1'
              · go_wp2_with fail
                go_quiet (fail)
                go_wp2_with fail
                generalize hwq : wr.drewN _ = wq
                have HTQ := hidI (show SortAt w2 bh (some ⟨g, 0, none⟩) n scap cells ds wq from by rw [← hwq]; exact HT.out.drew)
                have HSW := hidI (HTQ.out.swap hjn HM.out HAB.out.1 HAB.out.2 hg hbg)
                replace c0 : wq.cell? ⟨bh, 0, none⟩ = some (.slice (some ⟨g, 0, none⟩) n scap) := by rw [← hwq]; exact c0
                replace a0 : wq.cell? ⟨g, m * 2, none⟩ = some (.int .i64 a1') := by rw [← hwq]; exact a0
                replace a1 : wq.cell? ⟨g, m * 2 + 1, none⟩ = some (.int .i64 a2') := by rw [← hwq]; exact a1
                replace b0 : wq.cell? ⟨g, j * 2, none⟩ = some (.int .i64 b1') := by rw [← hwq]; exact b0
                replace b1 : wq.cell? ⟨g, j * 2 + 1, none⟩ = some (.int .i64 b2') := by rw [← hwq]; exact b1
                replace hf : ∀ o, wq.frozen? ⟨g, o, none⟩ = false := by rw [← hwq]; exact hf
                have f0 := hf (j * 2)
                have f1 := hf (j * 2 + 1)
                have f2 := hf (m * 2)
                have f3 := hf (m * 2 + 1)
                have hjm : ¬ j = m := by have := HM.out; omega
                have hmj : ¬ m = j := by have := HM.out; omega
                clear hf hwq
                go_region
                go_wp2_with fail
                exact ⟨⟨m, swapC ds m, by have := HM.out; omega, rfl, hidI (show SortAt w2 bh (some ⟨g, 0, none⟩) n scap cells (swapC ds m) (swapW wq g m j (a1', a2') (b1', b2')).drew from HSW.out.drew (k := 1))⟩, by simp [intOf]; have := HM.out; omega⟩
              · have hc' : decide (b1' < a1') = false := decide_eq_false hc
                go_wp2_with fail
                go_quiet (fail)
                go_wp2_with fail
                exact ⟨⟨k + 1, ds, by omega, by go_num, hidI HT.out.drew⟩, by simp [intOf]; omega⟩
        · have HRD := hidI (show RdT encCell wr 2 (.slice sao n scap) cs from by have := Rd.of_own HS.out.at_.row; have hl := HS.out.len; rw [hl] at this; exact (by rw [RdT, hl]; exact this))
          have HLN := HS.out.len
          go_wp2_with fail
          go_ret2
          refine ⟨sao, scap, cells, cs, ?_, ?_, HLA.out.1, HS.out.mem, by rw [HS.out.len, HNC.out], by rw [HS.out.len]; exact HN.out, HB2.out.trans (HS.out.low.mono HB2.out.size)⟩
          · rw [HLN]
            rfl
          · rw [HLN]
            exact HRD.out
end Go.Proofs.Ytlphjkgjcfhihaa

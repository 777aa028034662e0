/- turnstileref29: Heap: find, Get, Put, Done. (Written by mkserj.py.) -/
import Derived.Test.YtlphjkgjcfhihaaSerF
import Derived.Test.YtlphjkgjcfhihaaTlH
import Derived.Test.YtlphjkgjcfhihaaSerH
import Derived.Test.YtlphjkgjcfhihaaHistRA
namespace Go.Proofs.Ytlphjkgjcfhihaa
open Go.RowKit
set_option linter.unusedVariables false
set_option linter.unusedSimpArgs false

variable {w w' : World} {base hb : Nat} {v : Value} {cells : List (Int × Int)}

/-- a heap: its words in a row of its own -/
structure HeapAt (w : World) (base hb : Nat) (v : Value) (cells : List (Int × Int)) : Prop where
  blk : w.heap[hb]? = some (.cells #[v] 70 (0, 0))
  low : base ≤ hb
  row : w.ownsRow base 42 2 v cells.length (cells.flatMap encCell)
  ne : ∀ g, v.ownBlock = some g → g ≠ hb
theorem HeapAt.below (h : HeapAt w base hb v cells) (hc : Below w.heap.size w w') : HeapAt w' base hb v cells :=
  ⟨Go.Proofs.Ytlphjkgjcfhihaa.blk hc h.blk, h.low, ownsRow_chg h.row (Chg.of_below (S := fun _ => False) hc) (fun _ _ => id), h.ne⟩
def putC (cells : List (Int × Int)) (x y : Int) : List (Int × Int) := if place cells x < cells.length then cells.set (place cells x) (x, y) else cells ++ [(x, y)]
def placeI (cells : List (Int × Int)) (x : Int) : Int := if place cells x < cells.length then (place cells x : Int) else -1

set_option maxHeartbeats 1000000 in
theorem hfind_any (h : HeapAt w base hb v cells) (hl : cells.length ≤ 262144) (x : Int) :
    Calls Try.prog 47 #[.pointer (some ⟨hb, 0, none⟩), .int .i64 x] w fun e w' => e = .returned (.int .i64 (placeI cells x)) ∧ w' = w := by
  obtain ⟨ao, cap, rfl⟩ := ownsRow_shape h.row
  have c0 : w.cell? ⟨hb, 0, none⟩ = some (.slice ao cells.length cap) := cell_of_block h.blk rfl
  have HRD := hidI (show RdT encCell w 2 (.slice ao cells.length cap) cells from Rd.of_own h.row)
  clear h
  go_enter Try.func47, Try.ntmps47
  go_wp2_with fail
  go_loopw [5] (fun i w' => ∃ k : Nat, k ≤ cells.length ∧ i = .int .i64 (k : Int) ∧ Hid (k ≤ place cells x) ∧ w' = w) (fun i _ => ((cells.length : Int) - intOf i).toNat)
  case atStart => exact ⟨0, by omega, rfl, hidI (Nat.zero_le _), rfl⟩
  case round =>
    obtain ⟨k, hk, rfl, HP, rfl⟩ := hrel
    by_cases hlt : k < cells.length
    · obtain ⟨e, he⟩ := some_at hlt
      obtain ⟨g, o, rfl, _, hcs⟩ := RdT.at encCell_len HRD.out he
      have d1 := hcs 0 _ rfl
      simp only [Nat.add_zero] at d1
      have HE := hidI he
      clear hcs he
      by_cases ha : e.1 = x
      · have HA := hidI (place_le HE.out ha)
        have hb' : (e.1 == x) = true := by simpa using ha
        clear ha
        go_wp2_with fail
        go_ret
        obtain rfl : k = place cells x := by have := HA.out; have := HP.out; omega
        refine ⟨?_, rfl⟩
        unfold placeI
        rw [if_pos hlt]
        rfl
      · have hb' : (e.1 == x) = false := by simpa using ha
        have HN := hidI (show k + 1 ≤ place cells x from by
          have := HP.out
          rcases Nat.lt_or_ge k (place cells x) with h | h
          · exact h
          · exfalso
            have hkp : k = place cells x := by omega
            obtain ⟨c', h1, h2⟩ := place_at (l := cells) (a := x) (by omega)
            rw [← hkp, HE.out] at h1
            cases h1
            exact ha h2)
        clear ha
        go_wp2_with fail
        exact ⟨⟨k + 1, by omega, by go_num, HN, trivial⟩, by simp [intOf]; omega⟩
    · obtain rfl : k = cells.length := by omega
      go_wp2_with fail
      go_ret
      refine ⟨?_, rfl⟩
      unfold placeI
      rw [if_neg (by have := HP.out; omega)]
      rfl

set_option maxHeartbeats 1000000 in
theorem hget_any (h : HeapAt w base hb v cells) (hl : cells.length ≤ 262144) (x : Int) {y : Int} (hy : look cells (fun _ => 0) x = y) :
    Calls Try.prog 36 #[.pointer (some ⟨hb, 0, none⟩), .int .i64 x] w fun e w' => e = .returned (.int .i64 y) ∧ w' = w := by
  subst hy
  have H := hidI h
  obtain ⟨ao, cap, rfl⟩ := ownsRow_shape h.row
  have c0 : w.cell? ⟨hb, 0, none⟩ = some (.slice ao cells.length cap) := cell_of_block h.blk rfl
  have hrd : RdT encCell w 2 (.slice ao cells.length cap) cells := Rd.of_own h.row
  clear h
  by_cases hp : place cells x < cells.length
  · obtain ⟨e, he⟩ := some_at hp
    obtain ⟨g, o, rfl, _, hcs⟩ := RdT.at encCell_len hrd he
    have d2 := hcs 1 _ rfl
    have HL := hidI (show look cells (fun _ => 0) x = e.2 from by unfold look; rw [he])
    obtain ⟨k, hk⟩ : ∃ k, k = place cells x := ⟨_, rfl⟩
    have HPI := hidI (show placeI cells x = (k : Int) from by unfold placeI; rw [if_pos hp, hk])
    rw [← hk] at d2 hp
    clear hrd hcs he hk
    go_enter Try.func36, Try.ntmps36
    go_wp2_with fail
    refine (hfind_any H.out hl x).mono ?_
    rw [HPI.out]
    rintro e1 w1 ⟨rfl, rfl⟩
    go_wp2_with fail
    go_ret
    exact ⟨by rw [HL.out]; rfl, rfl⟩
  · have HL := hidI (show look cells (fun _ => 0) x = 0 from by unfold look; rw [List.getElem?_eq_none (by omega)])
    have HPI := hidI (show placeI cells x = -1 from by unfold placeI; rw [if_neg hp])
    clear hrd hp
    go_enter Try.func36, Try.ntmps36
    go_wp2_with fail
    refine (hfind_any H.out hl x).mono ?_
    rw [HPI.out]
    rintro e1 w1 ⟨rfl, rfl⟩
    go_wp2_with fail
    go_ret
    exact ⟨by rw [HL.out]; rfl, rfl⟩

/-- what Put leaves -/
def PutPost (base hb : Nat) (v : Value) (cells : List (Int × Int)) (w : World) (w' : World) : Prop :=
  ∃ v', HeapAt w' base hb v' cells ∧ Chg (fun k => k = hb ∨ v.ownBlock = some k) w w' ∧ ∀ g, v'.ownBlock = some g → v.ownBlock = some g ∨ w.heap.size ≤ g

theorem flat_set1 (cells : List (Int × Int)) {k : Nat} {e : Int × Int} (he : cells[k]? = some e) (y : Int) : (cells.flatMap encCell).set (k * 2 + 1) (.int .i64 y) = (cells.set k (e.1, y)).flatMap encCell := by
  have hk := (List.getElem?_eq_some_iff.1 he).1
  rw [flatPut encCell_len cells k _ hk]
  have hl := flat_len encCell_len cells
  have h0 := flat_at encCell_len cells he 0 _ rfl
  refine List.ext_getElem? fun j => ?_
  by_cases e1 : k * 2 + 1 = j
  · subst e1
    rw [List.getElem?_set_self (by omega), List.append_assoc, List.getElem?_append_right (by rw [List.length_take]; omega), List.length_take, Nat.min_eq_left (by omega)]
    rw [show k * 2 + 1 - k * 2 = 1 from by omega]
    rfl
  · rw [List.getElem?_set_ne e1, List.append_assoc]
    rcases Nat.lt_or_ge j (k * 2) with q | q
    · rw [List.getElem?_append_left (by rw [List.length_take]; omega), List.getElem?_take_of_lt q]
    · rw [List.getElem?_append_right (by rw [List.length_take]; omega), List.length_take, Nat.min_eq_left (by omega)]
      by_cases e2 : j = k * 2
      · subst e2
        rw [Nat.sub_self]
        rw [Nat.add_zero] at h0
        rw [h0]
        rfl
      · rw [List.getElem?_append_right (by show 2 ≤ _; omega), List.getElem?_drop]
        congr 1
        show j = k * 2 + 2 + (j - k * 2 - 2)
        omega

set_option maxRecDepth 100000 in
set_option maxHeartbeats 2000000 in
theorem hput_any (h : HeapAt w base hb v cells) (hl : cells.length < 262144) (x y : Int) :
    Calls Try.prog 37 #[.pointer (some ⟨hb, 0, none⟩), .int .i64 x, .int .i64 y] w fun e w' => e = .returned (.tuple #[]) ∧ PutPost base hb v (putC cells x y) w w' := by
  have H := hidI h
  obtain ⟨ao, cap, rfl⟩ := ownsRow_shape h.row
  have c0 : w.cell? ⟨hb, 0, none⟩ = some (.slice ao cells.length cap) := cell_of_block h.blk rfl
  have hrd : RdT encCell w 2 (.slice ao cells.length cap) cells := Rd.of_own h.row
  have HLT := hidI hl
  clear h
  by_cases hp : place cells x < cells.length
  · obtain ⟨e, he, hex⟩ := place_at hp
    obtain ⟨g, cur, rfl, hbg, hgb, hcap, hcells⟩ := ownsRow_some H.out.row (by omega)
    have HPC := hidI (show putC cells x y = cells.set (place cells x) (e.1, y) from by unfold putC; rw [if_pos hp, hex])
    obtain ⟨k, hk⟩ : ∃ k, k = place cells x := ⟨_, rfl⟩
    have HPI := hidI (show placeI cells x = (k : Int) from by unfold placeI; rw [if_pos hp, hk])
    rw [← hk] at he hp HPC
    have d2 : w.cell? ⟨g, k * 2 + 1, none⟩ = some (.int .i64 e.2) := cell_of_block hgb (hcells _ _ (flat_at encCell_len cells he 1 _ rfl))
    have f2 : w.frozen? ⟨g, k * 2 + 1, none⟩ = false := free_of_block hgb
    have hne := H.out.ne g rfl
    have HPOST := hidI (show PutPost base hb (.slice (some ⟨g, 0, none⟩) cells.length cap) (putC cells x y) w (w.setCell ⟨g, k * 2 + 1, none⟩ (.int .i64 y)) from by
      refine ⟨_, ⟨block_other H.out.blk (fun q => hne q.symm), H.out.low, ?_, H.out.ne⟩, (Chg.refl _ w).setCell (.inl (.inr rfl)) _, fun g hg => .inl hg⟩
      have := row_set (o := k * 2 + 1) H.out.row (.int .i64 y)
      rw [flat_set1 cells he] at this
      rw [HPC.out, List.length_set]
      exact this)
    clear hrd he hgb hcells hk hne
    go_enter Try.func37, Try.ntmps37
    go_wp2_with fail
    refine (hfind_any H.out (by have := HLT.out; omega) x).mono ?_
    rw [HPI.out]
    rintro e1 w1 ⟨rfl, rfl⟩
    go_wp2_with fail
    go_end0
    exact ⟨rfl, HPOST.out⟩
  · have HPC := hidI (show putC cells x y = cells ++ [(x, y)] from by unfold putC; rw [if_neg hp])
    have HPI := hidI (show placeI cells x = -1 from by unfold placeI; rw [if_neg hp])
    obtain ⟨i0, hi, hz0, hz1, hz2⟩ := info_parts cellInfo
    clear hrd hp
    go_enter Try.func37, Try.ntmps37
    go_wp2_with fail
    refine (hfind_any H.out (by have := HLT.out; omega) x).mono ?_
    rw [HPI.out]
    rintro e1 w1 ⟨rfl, rfl⟩
    go_wp2_with (at_builtin; refine wpList_append_d _ rfl _ _ 38 rfl base 42 i0 _ 2 16 Try.underlying38 hi hz0 hz1 hz2 rfl (by decide) _ _ _ rfl (ownsRow_chg H.out.row ((Chg.refl (fun _ => False) w1).alloc _) (fun _ _ => id)) ⟨w1.heap.size, 0, none⟩ 1 1 (encCell (x, y)) rfl rfl ?c1 ?c2 ?c3 ?c4 ?c5 ?_)
    case c1 => exact news_at (block_new _ _)
    case c2 => exact one_cell _
    case c3 => have := HLT.out; unfold maxLen; omega
    case c4 => have := HLT.out; omega
    case c5 => have := H.out.low; have := lt_of_block H.out.blk; simp; omega
    intro ao' cp w2 hown hfrom hgrown
    have hc := Chg.grown (S := fun k => (Value.slice ao cells.length cap).ownBlock = some k) ((Chg.refl _ w1).alloc (.cells (encCell (x, y)).toArray 42)) hgrown (fun k hk => .inl hk)
    have hb1 := chgblk hc H.out.blk (fun hk => H.out.ne _ hk rfl)
    have f1 : w2.frozen? ⟨hb, 0, none⟩ = false := free_of_block hb1
    have f2 : w2.cell? ⟨hb, 0, none⟩ = some (.slice ao cells.length cap) := cell_of_block hb1 rfl
    have HPOST := hidI (show PutPost base hb (.slice ao cells.length cap) (putC cells x y) w1 (w2.setCell ⟨hb, 0, none⟩ (.slice ao' (cells.length + 1) cp)) from by
      have hlt := lt_of_block H.out.blk
      have hneq : ∀ g, (Value.slice ao' (cells.length + 1) cp).ownBlock = some g → g ≠ hb := fun g hg => by
        rcases hfrom g hg with e | e
        · exact H.out.ne g e
        · omega
      refine ⟨.slice ao' (cells.length + 1) cp, ⟨block_setCell _ hb1, H.out.low, ?_, hneq⟩, (Chg.then_ (S := fun k => k = hb ∨ (Value.slice ao cells.length cap).ownBlock = some k) (Chg.refl _ w1) hc (fun k _ hk => .inr hk)).setCell (p := ⟨hb, 0, none⟩) (.inl (.inl rfl)) _, fun g hg => ?_⟩
      · rw [HPC.out, List.length_append, List.length_singleton, List.flatMap_append]
        exact ownsRow_chg (S := fun k => k = hb) hown (show Chg (fun k => k = hb) w2 _ from (Chg.refl (fun k => k = hb) w2).setCell (p := ⟨hb, 0, none⟩) (.inl rfl) _) (fun g hg e => hneq g hg e)
      · rcases hfrom g hg with e | e
        · exact .inl e
        · exact .inr (by omega))
    clear hb1 hc hown hfrom hgrown hi hz0 hz1 hz2
    go_wp2_with fail
    go_end0
    exact ⟨rfl, HPOST.out⟩
end Go.Proofs.Ytlphjkgjcfhihaa

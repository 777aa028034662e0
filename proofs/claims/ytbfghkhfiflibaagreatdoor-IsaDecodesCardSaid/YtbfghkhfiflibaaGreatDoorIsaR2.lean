/- The contract of isa.Decode. -/
import Derived.Test.YtbfghkhfiflibaaGreatDoorIsaQ
import Derived.Test.YtbfghkhfiflibaaGreatDoorIsaE
import Derived.Deep.CutRange
namespace Go.Proofs.YtbfghkhfiflibaaGreatDoor
open Go.RowKit
set_option linter.unusedVariables false
set_option linter.unusedSimpArgs false

/-- where the bytes go wrong, and how -/
def StuckAt (bs : List UInt8) (p c : Nat) : Prop := ∃ (xs : List OpD) (rest : List UInt8), Good xs ∧ bs = xs.flatMap bytesS ++ rest ∧ p = (xs.flatMap bytesS).length ∧ rest ≠ [] ∧ (c = 3 ∧ xs.length = 262144 ∨ c = 13 ∧ xs.length < 262144 ∧ parse1 rest = none)

def DecYes (bs : List UInt8) (w : World) (e : Ending) (w' : World) : Prop :=
  ∃ (ao : Option Addr) (cp : Nat) (xs : List OpD), e = .returned (.tuple #[.slice ao xs.length cp, .int .i64 0, .int .i64 0]) ∧ w'.ownsRow w.heap.size 62 6 (.slice ao xs.length cp) xs.length (xs.flatMap encOp) ∧
    Good xs ∧ xs.length ≤ 262144 ∧ xs.flatMap bytesS = bs ∧ Below w.heap.size w w'
def DecNo (bs : List UInt8) (w : World) (e : Ending) (w' : World) : Prop :=
  ∃ (p c : Nat), e = .returned (.tuple #[.slice none 0 0, .int .i64 (p : Int), .int .i64 (c : Int)]) ∧ StuckAt bs p c ∧ Below w.heap.size w w'

/-- the instruction when j of its registers are read -/
def partR (k : UInt8) (f : Fm) (r : List UInt8) (j : Nat) : OpD :=
  let c := if f.cal = true then 1 else 0
  ⟨(k.toNat : Int), if f.cal = true then at8 r 0 else 0, if 0 < j ∧ 0 < f.regs then at8 r c else 0, if 1 < j ∧ 1 < f.regs then at8 r (c + 1) else 0, if 2 < j ∧ 2 < f.regs then at8 r (c + 2) else 0, 0⟩

/-- a number when t of its bytes are read -/
def numP (l : List UInt8) (i : Nat) : Nat → Int
  | 0 => 0
  | t + 1 => wr64 (numP l i t * 256 + at8 l (i + t))
theorem form_cal {k : Int} {f : Fm} (h : formS k = some f) (hc : f.cal = true) : f.regs = 2 ∧ f.n = false := by
  have hk := kinds (k := k) (by rw [h]; simp)
  rcases hk with rfl | rfl | rfl | rfl | rfl | rfl | rfl | rfl | rfl | rfl | rfl | rfl | rfl | rfl | rfl <;> simp [formS] at h <;> subst h <;> simp [fm] at hc ⊢
theorem wrap64_wr (x : Int) : wrap64 x = wr64 x := by unfold wrap64 wr64; rfl
theorem numP_8 (l : List UInt8) (i : Nat) : numP l i 8 = num8 l i := rfl
theorem at8_drop (l : List UInt8) (i j : Nat) : at8 (l.drop i) j = at8 l (i + j) := by simp [at8, List.getD_eq_getElem?_getD]
theorem str_indexN (l : List UInt8) (i : Nat) (h : i < l.length) (w : World) : (Instr.index 9 (.string (strOf l)) (.int .i64 (i : Int))).run Tryz.prog w = .ok (.int .u8 (at8 l i)) w :=
  str_index l i (l.getD i 0) (by simp [List.getD_eq_getElem?_getD, h]) w

theorem str_index0 (l : List UInt8) (h : 0 < l.length) (w : World) : (Instr.index 9 (.string (strOf l)) (.int .i64 0)).run Tryz.prog w = .ok (.int .u8 (at8 l 0)) w := by
  have h1 := str_index l 0 (l.getD 0 0) (by simp [List.getD_eq_getElem?_getD, h]) w
  exact h1
theorem str_from1 (l : List UInt8) (h : 0 < l.length) (w : World) : (Instr.sliceAt 9 (.string (strOf l)) (some (.int .i64 1)) none none).run Tryz.prog w = .ok (.string (strOf (l.drop 1))) w :=
  str_from l 1 (by omega) w

set_option maxRecDepth 100000 in
set_option maxHeartbeats 8000000 in
theorem decode_any (w : World) (bs : List UInt8) (hbs : bs.length ≤ 9223372036854775807) : Calls Tryz.prog 4 #[.string (strOf bs)] w fun e w' => DecYes bs w e w' ∨ DecNo bs w e w' := by
  have a0 : ∀ (p : Nat) (w : World), (Instr.index 68 (.agg #[.pointer (some ⟨p, 2, none⟩), .pointer (some ⟨p, 3, none⟩), .pointer (some ⟨p, 4, none⟩)]) (.int .i64 0)).run Tryz.prog w = .ok (.pointer (some ⟨p, 2, none⟩)) w := fun _ _ => by kernel_rfl
  have a1 : ∀ (p : Nat) (w : World), (Instr.index 68 (.agg #[.pointer (some ⟨p, 2, none⟩), .pointer (some ⟨p, 3, none⟩), .pointer (some ⟨p, 4, none⟩)]) (.int .i64 1)).run Tryz.prog w = .ok (.pointer (some ⟨p, 3, none⟩)) w := fun _ _ => by kernel_rfl
  have a2 : ∀ (p : Nat) (w : World), (Instr.index 68 (.agg #[.pointer (some ⟨p, 2, none⟩), .pointer (some ⟨p, 3, none⟩), .pointer (some ⟨p, 4, none⟩)]) (.int .i64 2)).run Tryz.prog w = .ok (.pointer (some ⟨p, 4, none⟩)) w := fun _ _ => by kernel_rfl
  obtain ⟨i0, hi, hz0, hz1, hz2⟩ := info_parts opInfo
  have hsz := strOf_size bs
  go_enter Tryz.func4, Tryz.ntmps4
  go_wp2_with fail
  go_loopw [3, 2] (fun i v wr => ∃ (xs : List OpD) (rest : List UInt8) (p : Nat), i = .int .i64 (p : Int) ∧ bs = xs.flatMap bytesS ++ rest ∧ p = (xs.flatMap bytesS).length ∧ Good xs ∧ xs.length ≤ 262144 ∧ Below w.heap.size w wr ∧
    wr.ownsRow w.heap.size 62 6 v xs.length (xs.flatMap encOp)) (fun i _ _ => ((bs.length : Int) - intOf i).toNat)
  case atStart => exact ⟨[], bs, 0, rfl, rfl, rfl, ⟨rfl, fun o ho => by simp at ho⟩, by simp, Below.refl _ _, World.ownsRow_nil _ _ _ _⟩
  case round =>
    obtain ⟨xs, rest, p, rfl, hbx, hp, hgood, hxl, hbel, hown⟩ := hrel
    obtain ⟨vo, vc, rfl⟩ := ownsRow_shape hown
    have hlen : bs.length = p + rest.length := by rw [hbx, List.length_append, ← hp]
    have HBX := hidI hbx
    have HP := hidI hp
    have HG := hidI hgood
    have HBEL := hidI hbel
    have HOWN := hidI hown
    clear hbx hp hgood hbel hown
    cases rest with
    | nil =>
      have hpl : p = bs.length := by simp only [List.length_nil] at hlen; omega
      clear hlen
      subst hpl
      go_wp2_with fail
      go_ret3
      refine .inl ⟨vo, vc, xs, rfl, HOWN.out, HG.out, hxl, ?_, HBEL.out⟩
      have := HBX.out
      simpa using this.symm
    | cons k r =>
      simp only [List.length_cons] at hlen
      have hpb : p < bs.length := by omega
      have hpr : p + 1 + r.length = bs.length := by omega
      have HLEN := hidI hpr
      clear hlen hpr
      obtain ⟨n9, hn9⟩ : ∃ x, x = xs.length := ⟨_, rfl⟩
      have HOWN2 := HOWN.out
      rw [← hn9] at HOWN2 hxl ⊢
      have HOWN' := hidI HOWN2
      have HN9 := hidI hn9
      clear HOWN2 hn9 HOWN
      by_cases hlim : n9 = 262144
      · have hl2 : (n9 == 262144) = true := by simp [hlim]
        subst hlim
        go_wp2_with fail
        go_ret3
        exact .inr ⟨p, 3, rfl, ⟨xs, _, HG.out, HBX.out, HP.out, by simp, .inl ⟨rfl, HN9.out.symm⟩⟩, HBEL.out⟩
      have HLT := hidI (show xs.length < 262144 from by rw [← HN9.out]; omega)
      have hl2 : (n9 == 262144) = false := by simp [hlim]
      have hl3 : ((n9 : Int) == 262144) = false := by simp; omega
      have hix : ∀ w, (Instr.index 9 (.string (strOf bs)) (.int .i64 (p : Int))).run Tryz.prog w = .ok (.int .u8 (k.toNat : Int)) w := str_index bs p k (by rw [HBX.out, HP.out]; simp)
      have hdr : bs.drop (p + 1) = r := by
        have e : bs = (xs.flatMap bytesS ++ [k]) ++ r := by rw [HBX.out, List.append_assoc]; rfl
        have e2 : (xs.flatMap bytesS ++ [k]).length = p + 1 := by rw [List.length_append, HP.out]; rfl
        rw [e, ← e2, List.drop_left]
      have hsl : ∀ w, (Instr.sliceAt 9 (.string (strOf bs)) (some (.int .i64 ((p : Int) + 1))) none none).run Tryz.prog w = .ok (.string (strOf r)) w := by
        intro w
        have h1 := str_from bs (p + 1) (by omega) w
        rw [hdr] at h1
        exact h1
      have hsr := strOf_size r
      clear hdr
      go_wp2_with fail
      refine (formOf_any _ _).mono ?_
      rintro e w1 ⟨rfl, hb1⟩
      have hblk := blk hb1 (block_new wr _)
      have HB1 := hidI (bnextA (Below.refl _ _) hb1)
      have HBLK := hidI hblk
      clear hb1 hblk
      cases hf : formS (k.toNat : Int) with
      | none =>
        have HF := hidI hf
        clear hf
        unfold formV
        go_wp2_with fail
        go_ret3
        refine .inr ⟨p, 13, rfl, ⟨xs, _, HG.out, HBX.out, HP.out, by simp, .inr ⟨rfl, HLT.out, ?_⟩⟩, HBEL.out.trans ((HB1.out.alloc HB1.out.size _).mono HBEL.out.size)⟩
        simp [parse1, HF.out]
      | some f =>
        have hfr := form_regs hf
        have HF := hidI hf
        clear hf
        obtain ⟨fc, fr, fn, fl, fM⟩ := f
        simp only at hfr
        unfold formV encFm
        simp only
        have y : ∀ x, (w1.alloc x).heap[wr.heap.size]? = some (.cells #[.int .u8 (k.toNat : Int), .int .u8 0, .int .u8 0, .int .u8 0, .int .u8 0, .int .i64 0] 62 (0, 0)) := fun x => block_alloc HBLK.out
        obtain ⟨need, hneed⟩ : ∃ x, x = needF ⟨fc, fr, fn, fl, fM⟩ := ⟨_, rfl⟩
        have HNEED := hidI hneed
        by_cases hshort : r.length < need
        · have hno : parse1 (k :: r) = none := by simp [parse1, HF.out, ← HNEED.out, hshort]
          have HNO := hidI hno
          have hs1 : ∀ n : Nat, need = n → r.length < n := fun n h => by omega
          unfold needF at hneed
          clear hno
          cases fc
          · cases fn
            · have hs2 := hs1 fr (by simp at hneed; omega)
              clear hneed hs1 hshort
              go_wp2_with fail
              go_ret3
              exact .inr ⟨p, 13, rfl, ⟨xs, _, HG.out, HBX.out, HP.out, by simp, .inr ⟨rfl, HLT.out, HNO.out⟩⟩, HBEL.out.trans ((HB1.out.alloc HB1.out.size _).mono HBEL.out.size)⟩
            · have hs2 := hs1 (fr + 8) (by simp at hneed; omega)
              clear hneed hs1 hshort
              go_wp2_with fail
              go_ret3
              exact .inr ⟨p, 13, rfl, ⟨xs, _, HG.out, HBX.out, HP.out, by simp, .inr ⟨rfl, HLT.out, HNO.out⟩⟩, HBEL.out.trans ((HB1.out.alloc HB1.out.size _).mono HBEL.out.size)⟩
          · cases fn
            · have hs2 := hs1 (fr + 1) (by simp at hneed; omega)
              clear hneed hs1 hshort
              go_wp2_with fail
              go_ret3
              exact .inr ⟨p, 13, rfl, ⟨xs, _, HG.out, HBX.out, HP.out, by simp, .inr ⟨rfl, HLT.out, HNO.out⟩⟩, HBEL.out.trans ((HB1.out.alloc HB1.out.size _).mono HBEL.out.size)⟩
            · have hs2 := hs1 (fr + 1 + 8) (by simp at hneed; omega)
              clear hneed hs1 hshort
              go_wp2_with fail
              go_ret3
              exact .inr ⟨p, 13, rfl, ⟨xs, _, HG.out, HBX.out, HP.out, by simp, .inr ⟨rfl, HLT.out, HNO.out⟩⟩, HBEL.out.trans ((HB1.out.alloc HB1.out.size _).mono HBEL.out.size)⟩
        · skip
          cases fc with
          | false =>
            have hsuf : ¬ ((r.length : Int) < (need : Int)) := by omega
            have hnl : 0 + fr + (if fn = true then 8 else 0) ≤ r.length := by rw [HNEED.out] at hshort; simp [needF] at hshort ⊢; omega
            have HNL := hidI hnl
            obtain ⟨bp, hbp⟩ : ∃ x, x = wr.heap.size := ⟨_, rfl⟩
            have HBP := hidI hbp
            clear hbp
            have hPQ : w1.heap.size ≠ wr.heap.size := by have := lt_of_block HBLK.out; omega
            have hPw : w.heap.size ≤ wr.heap.size := HBEL.out.size
            have hNP := hidI (show ∀ g, (Value.slice vo n9 vc).ownBlock = some g → g ≠ wr.heap.size from fun g hg e => by have := (HOWN'.out.lt g hg).2; omega)
            have HP0 := hidI (show (w1.alloc (.cells #[.bool false, .int .i64 (fr : Int), .bool fn, .int .i64 fl, .int .i64 fM] 64)).heap[wr.heap.size]? = some (.cells (encOp (partR k ⟨false, fr, fn, fl, fM⟩ r 0)).toArray 62 (0, 0)) from by rw [y]; simp [encOp, partR])
            have HQ0 := hidI (show (w1.alloc (.cells #[.bool false, .int .i64 (fr : Int), .bool fn, .int .i64 fl, .int .i64 fM] 64)).heap[w1.heap.size]? = some (.cells #[.bool false, .int .i64 (fr : Int), .bool fn, .int .i64 fl, .int .i64 fM] 64 (0, 0)) from block_new _ _)
            have HB0 := hidI (HBEL.out.trans ((HB1.out.alloc HB1.out.size (.cells #[.bool false, .int .i64 (fr : Int), .bool fn, .int .i64 fl, .int .i64 fM] 64)).mono HBEL.out.size))
            have HR0 := hidI (ownsRow_chg HOWN'.out (Chg.of_below (S := fun _ => False) (HB1.out.alloc HB1.out.size (.cells #[.bool false, .int .i64 (fr : Int), .bool fn, .int .i64 fl, .int .i64 fM] 64))) (fun _ _ => id))
            clear y hneed hnl hshort
            cases fn
            · have hs2 : ¬ r.length < fr := by have := HNL.out; simp at this; omega
              go_wp2_with fail
              go_loopw [65, 8] (fun i v wz => ∃ j : Nat, j ≤ 3 ∧ i = .int .i64 (j : Int) ∧ v = .string (strOf (r.drop (0 + min j fr))) ∧ wz.heap[wr.heap.size]? = some (.cells (encOp (partR k ⟨false, fr, false, fl, fM⟩ r j)).toArray 62 (0, 0)) ∧ wz.heap[w1.heap.size]? = some (.cells #[.bool false, .int .i64 (fr : Int), .bool false, .int .i64 fl, .int .i64 fM] 64 (0, 0)) ∧ Below w.heap.size w wz ∧ wz.ownsRow w.heap.size 62 6 (.slice vo n9 vc) n9 (xs.flatMap encOp)) (fun i _ _ => (3 - intOf i).toNat)
              case atStart => exact ⟨0, by omega, rfl, by simp, HP0.out, HQ0.out, HB0.out, HR0.out⟩
              case round =>
                obtain ⟨j, hj, rfl, rfl, hpo, hqo, hbo, hro⟩ := hrel
                have HRO := hidI hro
                clear hro
                have HPO := hidI hpo
                have HQO := hidI hqo
                have HBO := hidI hbo
                have g1 : wr.cell? ⟨w1.heap.size, 1, none⟩ = some (.int .i64 (fr : Int)) := cell_of_block hqo rfl
                have g2 : wr.cell? ⟨w1.heap.size, 2, none⟩ = some (.bool false) := cell_of_block hqo rfl
                rcases (by omega : j = 0 ∨ j = 1 ∨ j = 2 ∨ j = 3) with rfl | rfl | rfl | rfl
                · by_cases hjf : 0 < fr
                  · have hmin : min 0 fr = 0 := by omega
                    rw [hmin]
                    have hjf' : ((0 : Nat) : Int) < (fr : Int) := by omega
                    have hmin2 : min 1 fr = 1 := by omega
                    obtain ⟨R, hR⟩ : ∃ x, x = r.drop (0 + 0) := ⟨_, rfl⟩
                    obtain ⟨R2, hR2⟩ : ∃ x, x = r.drop (0 + 1) := ⟨_, rfl⟩
                    have hlr : 0 < R.length := by rw [hR]; simp; omega
                    have e1 : ∀ w, (Instr.index 9 (.string (strOf R)) (.int .i64 0)).run Tryz.prog w = .ok (.int .u8 (at8 r (0 + 0))) w := fun w => by
                      have h := str_index0 R hlr w
                      rw [hR, at8_drop] at h
                      rw [hR]
                      exact h
                    have e2 : ∀ w, (Instr.sliceAt 9 (.string (strOf R)) (some (.int .i64 1)) none none).run Tryz.prog w = .ok (.string (strOf R2)) w := fun w => by
                      have h := str_from1 R hlr w
                      rw [show R.drop 1 = R2 from by rw [hR, hR2, List.drop_drop]] at h
                      exact h
                    rw [← hR]
                    have HR2 := hidI hR2
                    have p1 : wr.cell? ⟨_, 2, none⟩ = some (.int .u8 0) := cell_of_block hpo (by simp [encOp, partR])
                    have p2 : wr.frozen? ⟨_, 2, none⟩ = false := free_of_block hpo
                    clear hpo hqo hbo hR hR2
                    go_wp2_with fail
                    go_region
                    all_goals go_wp2_with fail
                    all_goals
                      refine ⟨⟨1, by omega, rfl, by rw [HR2.out, hmin2], ?_, block_other HQO.out hPQ, (HBO.out.setCell hPw _).drew, ownsRow_chg HRO.out ((Chg.refl (fun k => k = _) wr).setCell (p := ⟨_, 2, none⟩) (.inl rfl) _).drew (fun g hg e => hNP.out g hg e)⟩, by simp [intOf]⟩
                      have hnew := block_setCell (o := 2) (.int .u8 (at8 r (0 + 0))) HPO.out
                      refine hnew.trans ?_
                      have hjf2 : 0 < fr := hjf
                      simp [encOp, partR, hjf2]
                      try omega
                  · have hmin : min 0 fr = min 1 fr := by omega
                    have hjf' : ¬ ((0 : Nat) : Int) < (fr : Int) := by omega
                    rw [hmin]
                    clear hpo hqo hbo
                    go_wp2_with fail
                    refine ⟨⟨1, by omega, rfl, rfl, ?_, HQO.out, HBO.out, HRO.out⟩, by simp [intOf]⟩
                    rw [HPO.out]
                    simp [encOp, partR]
                    omega
                · by_cases hjf : 1 < fr
                  · have hmin : min 1 fr = 1 := by omega
                    rw [hmin]
                    have hjf' : ((1 : Nat) : Int) < (fr : Int) := by omega
                    have hmin2 : min 2 fr = 2 := by omega
                    obtain ⟨R, hR⟩ : ∃ x, x = r.drop (0 + 1) := ⟨_, rfl⟩
                    obtain ⟨R2, hR2⟩ : ∃ x, x = r.drop (0 + 2) := ⟨_, rfl⟩
                    have hlr : 0 < R.length := by rw [hR]; simp; omega
                    have e1 : ∀ w, (Instr.index 9 (.string (strOf R)) (.int .i64 0)).run Tryz.prog w = .ok (.int .u8 (at8 r (0 + 1))) w := fun w => by
                      have h := str_index0 R hlr w
                      rw [hR, at8_drop] at h
                      rw [hR]
                      exact h
                    have e2 : ∀ w, (Instr.sliceAt 9 (.string (strOf R)) (some (.int .i64 1)) none none).run Tryz.prog w = .ok (.string (strOf R2)) w := fun w => by
                      have h := str_from1 R hlr w
                      rw [show R.drop 1 = R2 from by rw [hR, hR2, List.drop_drop]] at h
                      exact h
                    rw [← hR]
                    have HR2 := hidI hR2
                    have p1 : wr.cell? ⟨_, 3, none⟩ = some (.int .u8 0) := cell_of_block hpo (by simp [encOp, partR])
                    have p2 : wr.frozen? ⟨_, 3, none⟩ = false := free_of_block hpo
                    clear hpo hqo hbo hR hR2
                    go_wp2_with fail
                    go_region
                    all_goals go_wp2_with fail
                    all_goals
                      refine ⟨⟨2, by omega, rfl, by rw [HR2.out, hmin2], ?_, block_other HQO.out hPQ, (HBO.out.setCell hPw _).drew, ownsRow_chg HRO.out ((Chg.refl (fun k => k = _) wr).setCell (p := ⟨_, 3, none⟩) (.inl rfl) _).drew (fun g hg e => hNP.out g hg e)⟩, by simp [intOf]⟩
                      have hnew := block_setCell (o := 3) (.int .u8 (at8 r (0 + 1))) HPO.out
                      refine hnew.trans ?_
                      have hjf2 : 1 < fr := hjf
                      simp [encOp, partR, hjf2]
                      try omega
                  · have hmin : min 1 fr = min 2 fr := by omega
                    have hjf' : ¬ ((1 : Nat) : Int) < (fr : Int) := by omega
                    rw [hmin]
                    clear hpo hqo hbo
                    go_wp2_with fail
                    refine ⟨⟨2, by omega, rfl, rfl, ?_, HQO.out, HBO.out, HRO.out⟩, by simp [intOf]⟩
                    rw [HPO.out]
                    simp [encOp, partR]
                    omega
                · by_cases hjf : 2 < fr
                  · have hmin : min 2 fr = 2 := by omega
                    rw [hmin]
                    have hjf' : ((2 : Nat) : Int) < (fr : Int) := by omega
                    have hmin2 : min 3 fr = 3 := by omega
                    obtain ⟨R, hR⟩ : ∃ x, x = r.drop (0 + 2) := ⟨_, rfl⟩
                    obtain ⟨R2, hR2⟩ : ∃ x, x = r.drop (0 + 3) := ⟨_, rfl⟩
                    have hlr : 0 < R.length := by rw [hR]; simp; omega
                    have e1 : ∀ w, (Instr.index 9 (.string (strOf R)) (.int .i64 0)).run Tryz.prog w = .ok (.int .u8 (at8 r (0 + 2))) w := fun w => by
                      have h := str_index0 R hlr w
                      rw [hR, at8_drop] at h
                      rw [hR]
                      exact h
                    have e2 : ∀ w, (Instr.sliceAt 9 (.string (strOf R)) (some (.int .i64 1)) none none).run Tryz.prog w = .ok (.string (strOf R2)) w := fun w => by
                      have h := str_from1 R hlr w
                      rw [show R.drop 1 = R2 from by rw [hR, hR2, List.drop_drop]] at h
                      exact h
                    rw [← hR]
                    have HR2 := hidI hR2
                    have p1 : wr.cell? ⟨_, 4, none⟩ = some (.int .u8 0) := cell_of_block hpo (by simp [encOp, partR])
                    have p2 : wr.frozen? ⟨_, 4, none⟩ = false := free_of_block hpo
                    clear hpo hqo hbo hR hR2
                    go_wp2_with fail
                    go_region
                    all_goals go_wp2_with fail
                    all_goals
                      refine ⟨⟨3, by omega, rfl, by rw [HR2.out, hmin2], ?_, block_other HQO.out hPQ, (HBO.out.setCell hPw _).drew, ownsRow_chg HRO.out ((Chg.refl (fun k => k = _) wr).setCell (p := ⟨_, 4, none⟩) (.inl rfl) _).drew (fun g hg e => hNP.out g hg e)⟩, by simp [intOf]⟩
                      have hnew := block_setCell (o := 4) (.int .u8 (at8 r (0 + 2))) HPO.out
                      refine hnew.trans ?_
                      have hjf2 : 2 < fr := hjf
                      simp [encOp, partR, hjf2]
                      try omega
                  · have hmin : min 2 fr = min 3 fr := by omega
                    have hjf' : ¬ ((2 : Nat) : Int) < (fr : Int) := by omega
                    rw [hmin]
                    clear hpo hqo hbo
                    go_wp2_with fail
                    refine ⟨⟨3, by omega, rfl, rfl, ?_, HQO.out, HBO.out, HRO.out⟩, by simp [intOf]⟩
                    rw [HPO.out]
                    simp [encOp, partR]
                    omega
                · have hmin : min 3 fr = fr := by omega
                  rw [hmin]
                  obtain ⟨O, hO⟩ : ∃ x, x = opOf k ⟨false, fr, false, fl, fM⟩ r := ⟨_, rfl⟩
                  have hOO := HPO.out
                  rw [show partR k ⟨false, fr, false, fl, fM⟩ r 3 = O from by rw [hO]; simp [partR, opOf]] at hOO
                  clear hpo hqo hbo
                  have HOO := hidI hOO
                  have HWO := hidI (show wfOp O from by rw [hO]; exact opOf_wf _ _ _)
                  have HO := hidI hO
                  have p0 : wr.cell? ⟨_, 0, none⟩ = some (.int .u8 O.kind) := cell_of_block hOO rfl
                  have p1 : wr.cell? ⟨_, 1, none⟩ = some (.int .u8 O.cal) := cell_of_block hOO rfl
                  have p2 : wr.cell? ⟨_, 2, none⟩ = some (.int .u8 O.a) := cell_of_block hOO rfl
                  have p3 : wr.cell? ⟨_, 3, none⟩ = some (.int .u8 O.b) := cell_of_block hOO rfl
                  have p4 : wr.cell? ⟨_, 4, none⟩ = some (.int .u8 O.c) := cell_of_block hOO rfl
                  have p5 : wr.cell? ⟨_, 5, none⟩ = some (.int .i64 O.n) := cell_of_block hOO rfl
                  clear hOO hO
                  go_wp2_with fail
                  refine (check_any _ O HWO.out).mono ?_
                  rintro e w2 ⟨rfl, hb2⟩
                  have z0 := cell_later hb2 p0
                  have z1 := cell_later hb2 p1
                  have z2 := cell_later hb2 p2
                  have z3 := cell_later hb2 p3
                  have z4 := cell_later hb2 p4
                  have z5 := cell_later hb2 p5
                  have HB2 := hidI (HBO.out.trans (hb2.mono HBO.out.size))
                  have HR2 := hidI (ownsRow_chg HRO.out (Chg.of_below (S := fun _ => False) hb2) (fun _ _ => id))
                  clear hb2 p0 p1 p2 p3 p4 p5
                  cases hck : checkS O with
                  | false =>
                    have hno : parse1 (k :: r) = none := by
                      have hnl := HNL.out
                      simp at hnl
                      simp only [parse1, HF.out]
                      rw [if_neg (by simp [needF]; omega), ← HO.out, if_neg (by rw [hck]; decide)]
                    have HNO := hidI hno
                    clear hno hck
                    unfold codeV
                    go_wp2_with fail
                    go_ret3
                    exact .inr ⟨p, 13, rfl, ⟨xs, _, HG.out, HBX.out, HP.out, by simp, .inr ⟨rfl, HLT.out, HNO.out⟩⟩, HB2.out⟩
                  | true =>
                    have hyes : parse1 (k :: r) = some (O, 1 + needF ⟨false, fr, false, fl, fM⟩) := by
                      have hnl := HNL.out
                      simp at hnl
                      simp only [parse1, HF.out]
                      rw [if_neg (by simp [needF]; omega), ← HO.out, if_pos hck]
                    obtain ⟨-, -, hm, tt, htt⟩ := parse_sound hyes
                    have HM := hidI (show (bytesS O).length = 1 + (0 + fr + 0) from by rw [← hm]; first | (simp [needF]; done) | (simp [needF]; omega))
                    have HTT := hidI htt
                    have HCK := hidI hck
                    clear hyes hm htt hck
                    unfold codeV
                    go_wp2_with (at_builtin; refine wpList_append_d _ rfl _ _ 22 rfl w.heap.size 62 i0 _ 6 16 Tryz.underlying22 hi hz0 hz1 hz2 rfl (by decide) _ _ _ rfl (ownsRow_chg HR2.out ((Chg.refl (fun _ => False) w2).alloc _) (fun _ _ => id)) ⟨w2.heap.size, 0, none⟩ 1 1 (encOp O) rfl rfl ?c1 ?c2 ?c3 ?c4 ?c5 ?_)
                    case c1 => exact news_at (block_new _ _)
                    case c2 => intro u hu; simp [encOp] at hu; rcases hu with rfl | rfl | rfl | rfl | rfl | rfl <;> rfl
                    case c3 => unfold maxLen; omega
                    case c4 => omega
                    case c5 => have h9 := HB2.out.size; simp; omega
                    intro ao3 cp3 w3 hown3 hfrom3 hgr3
                    have hc3 : Chg (fun j => (Value.slice vo n9 vc).ownBlock = some j) w2 w3 := ((Chg.refl _ w2).alloc _).grown hgr3 (fun k hk => .inl hk)
                    have HB3 := hidI (HB2.out.trans (hc3.to_below HB2.out.size (fun k hk => (HR2.out.lt k hk).1)))
                    have HO3 := hidI hown3
                    clear hown3 hfrom3 hgr3 hc3
                    have hlen2 : p + (1 + (0 + fr + 0)) ≤ bs.length := by have h1 := HNL.out; have h2 := HLEN.out; simp at h1; omega
                    go_wp2_with fail
                    refine ⟨⟨xs ++ [O], tt, p + (1 + (0 + fr + 0)), by go_num, ?_, ?_, HG.out.snoc HCK.out HWO.out, ?_, HB3.out, ?_⟩, ?_⟩
                    · rw [HBX.out, HTT.out]
                      simp
                    · rw [List.flatMap_append, List.length_append, ← HP.out]
                      simp [HM.out]
                    · rw [List.length_append, ← HN9.out]
                      simp
                      omega
                    · have h9 := HO3.out
                      rw [flat_snoc, List.length_append, ← HN9.out]
                      exact h9
                    · simp [intOf]
                      omega
            · have hs2 : ¬ r.length < fr + 8 := by have := HNL.out; simp at this; omega
              go_wp2_with fail
              go_loopw [65, 8] (fun i v wz => ∃ j : Nat, j ≤ 3 ∧ i = .int .i64 (j : Int) ∧ v = .string (strOf (r.drop (0 + min j fr))) ∧ wz.heap[wr.heap.size]? = some (.cells (encOp (partR k ⟨false, fr, true, fl, fM⟩ r j)).toArray 62 (0, 0)) ∧ wz.heap[w1.heap.size]? = some (.cells #[.bool false, .int .i64 (fr : Int), .bool true, .int .i64 fl, .int .i64 fM] 64 (0, 0)) ∧ Below w.heap.size w wz ∧ wz.ownsRow w.heap.size 62 6 (.slice vo n9 vc) n9 (xs.flatMap encOp)) (fun i _ _ => (3 - intOf i).toNat)
              case atStart => exact ⟨0, by omega, rfl, by simp, HP0.out, HQ0.out, HB0.out, HR0.out⟩
              case round =>
                obtain ⟨j, hj, rfl, rfl, hpo, hqo, hbo, hro⟩ := hrel
                have HRO := hidI hro
                clear hro
                have HPO := hidI hpo
                have HQO := hidI hqo
                have HBO := hidI hbo
                have g1 : wr.cell? ⟨w1.heap.size, 1, none⟩ = some (.int .i64 (fr : Int)) := cell_of_block hqo rfl
                have g2 : wr.cell? ⟨w1.heap.size, 2, none⟩ = some (.bool true) := cell_of_block hqo rfl
                rcases (by omega : j = 0 ∨ j = 1 ∨ j = 2 ∨ j = 3) with rfl | rfl | rfl | rfl
                · by_cases hjf : 0 < fr
                  · have hmin : min 0 fr = 0 := by omega
                    rw [hmin]
                    have hjf' : ((0 : Nat) : Int) < (fr : Int) := by omega
                    have hmin2 : min 1 fr = 1 := by omega
                    obtain ⟨R, hR⟩ : ∃ x, x = r.drop (0 + 0) := ⟨_, rfl⟩
                    obtain ⟨R2, hR2⟩ : ∃ x, x = r.drop (0 + 1) := ⟨_, rfl⟩
                    have hlr : 0 < R.length := by rw [hR]; simp; omega
                    have e1 : ∀ w, (Instr.index 9 (.string (strOf R)) (.int .i64 0)).run Tryz.prog w = .ok (.int .u8 (at8 r (0 + 0))) w := fun w => by
                      have h := str_index0 R hlr w
                      rw [hR, at8_drop] at h
                      rw [hR]
                      exact h
                    have e2 : ∀ w, (Instr.sliceAt 9 (.string (strOf R)) (some (.int .i64 1)) none none).run Tryz.prog w = .ok (.string (strOf R2)) w := fun w => by
                      have h := str_from1 R hlr w
                      rw [show R.drop 1 = R2 from by rw [hR, hR2, List.drop_drop]] at h
                      exact h
                    rw [← hR]
                    have HR2 := hidI hR2
                    have p1 : wr.cell? ⟨_, 2, none⟩ = some (.int .u8 0) := cell_of_block hpo (by simp [encOp, partR])
                    have p2 : wr.frozen? ⟨_, 2, none⟩ = false := free_of_block hpo
                    clear hpo hqo hbo hR hR2
                    go_wp2_with fail
                    go_region
                    all_goals go_wp2_with fail
                    all_goals
                      refine ⟨⟨1, by omega, rfl, by rw [HR2.out, hmin2], ?_, block_other HQO.out hPQ, (HBO.out.setCell hPw _).drew, ownsRow_chg HRO.out ((Chg.refl (fun k => k = _) wr).setCell (p := ⟨_, 2, none⟩) (.inl rfl) _).drew (fun g hg e => hNP.out g hg e)⟩, by simp [intOf]⟩
                      have hnew := block_setCell (o := 2) (.int .u8 (at8 r (0 + 0))) HPO.out
                      refine hnew.trans ?_
                      have hjf2 : 0 < fr := hjf
                      simp [encOp, partR, hjf2]
                      try omega
                  · have hmin : min 0 fr = min 1 fr := by omega
                    have hjf' : ¬ ((0 : Nat) : Int) < (fr : Int) := by omega
                    rw [hmin]
                    clear hpo hqo hbo
                    go_wp2_with fail
                    refine ⟨⟨1, by omega, rfl, rfl, ?_, HQO.out, HBO.out, HRO.out⟩, by simp [intOf]⟩
                    rw [HPO.out]
                    simp [encOp, partR]
                    omega
                · by_cases hjf : 1 < fr
                  · have hmin : min 1 fr = 1 := by omega
                    rw [hmin]
                    have hjf' : ((1 : Nat) : Int) < (fr : Int) := by omega
                    have hmin2 : min 2 fr = 2 := by omega
                    obtain ⟨R, hR⟩ : ∃ x, x = r.drop (0 + 1) := ⟨_, rfl⟩
                    obtain ⟨R2, hR2⟩ : ∃ x, x = r.drop (0 + 2) := ⟨_, rfl⟩
                    have hlr : 0 < R.length := by rw [hR]; simp; omega
                    have e1 : ∀ w, (Instr.index 9 (.string (strOf R)) (.int .i64 0)).run Tryz.prog w = .ok (.int .u8 (at8 r (0 + 1))) w := fun w => by
                      have h := str_index0 R hlr w
                      rw [hR, at8_drop] at h
                      rw [hR]
                      exact h
                    have e2 : ∀ w, (Instr.sliceAt 9 (.string (strOf R)) (some (.int .i64 1)) none none).run Tryz.prog w = .ok (.string (strOf R2)) w := fun w => by
                      have h := str_from1 R hlr w
                      rw [show R.drop 1 = R2 from by rw [hR, hR2, List.drop_drop]] at h
                      exact h
                    rw [← hR]
                    have HR2 := hidI hR2
                    have p1 : wr.cell? ⟨_, 3, none⟩ = some (.int .u8 0) := cell_of_block hpo (by simp [encOp, partR])
                    have p2 : wr.frozen? ⟨_, 3, none⟩ = false := free_of_block hpo
                    clear hpo hqo hbo hR hR2
                    go_wp2_with fail
                    go_region
                    all_goals go_wp2_with fail
                    all_goals
                      refine ⟨⟨2, by omega, rfl, by rw [HR2.out, hmin2], ?_, block_other HQO.out hPQ, (HBO.out.setCell hPw _).drew, ownsRow_chg HRO.out ((Chg.refl (fun k => k = _) wr).setCell (p := ⟨_, 3, none⟩) (.inl rfl) _).drew (fun g hg e => hNP.out g hg e)⟩, by simp [intOf]⟩
                      have hnew := block_setCell (o := 3) (.int .u8 (at8 r (0 + 1))) HPO.out
                      refine hnew.trans ?_
                      have hjf2 : 1 < fr := hjf
                      simp [encOp, partR, hjf2]
                      try omega
                  · have hmin : min 1 fr = min 2 fr := by omega
                    have hjf' : ¬ ((1 : Nat) : Int) < (fr : Int) := by omega
                    rw [hmin]
                    clear hpo hqo hbo
                    go_wp2_with fail
                    refine ⟨⟨2, by omega, rfl, rfl, ?_, HQO.out, HBO.out, HRO.out⟩, by simp [intOf]⟩
                    rw [HPO.out]
                    simp [encOp, partR]
                    omega
                · by_cases hjf : 2 < fr
                  · have hmin : min 2 fr = 2 := by omega
                    rw [hmin]
                    have hjf' : ((2 : Nat) : Int) < (fr : Int) := by omega
                    have hmin2 : min 3 fr = 3 := by omega
                    obtain ⟨R, hR⟩ : ∃ x, x = r.drop (0 + 2) := ⟨_, rfl⟩
                    obtain ⟨R2, hR2⟩ : ∃ x, x = r.drop (0 + 3) := ⟨_, rfl⟩
                    have hlr : 0 < R.length := by rw [hR]; simp; omega
                    have e1 : ∀ w, (Instr.index 9 (.string (strOf R)) (.int .i64 0)).run Tryz.prog w = .ok (.int .u8 (at8 r (0 + 2))) w := fun w => by
                      have h := str_index0 R hlr w
                      rw [hR, at8_drop] at h
                      rw [hR]
                      exact h
                    have e2 : ∀ w, (Instr.sliceAt 9 (.string (strOf R)) (some (.int .i64 1)) none none).run Tryz.prog w = .ok (.string (strOf R2)) w := fun w => by
                      have h := str_from1 R hlr w
                      rw [show R.drop 1 = R2 from by rw [hR, hR2, List.drop_drop]] at h
                      exact h
                    rw [← hR]
                    have HR2 := hidI hR2
                    have p1 : wr.cell? ⟨_, 4, none⟩ = some (.int .u8 0) := cell_of_block hpo (by simp [encOp, partR])
                    have p2 : wr.frozen? ⟨_, 4, none⟩ = false := free_of_block hpo
                    clear hpo hqo hbo hR hR2
                    go_wp2_with fail
                    go_region
                    all_goals go_wp2_with fail
                    all_goals
                      refine ⟨⟨3, by omega, rfl, by rw [HR2.out, hmin2], ?_, block_other HQO.out hPQ, (HBO.out.setCell hPw _).drew, ownsRow_chg HRO.out ((Chg.refl (fun k => k = _) wr).setCell (p := ⟨_, 4, none⟩) (.inl rfl) _).drew (fun g hg e => hNP.out g hg e)⟩, by simp [intOf]⟩
                      have hnew := block_setCell (o := 4) (.int .u8 (at8 r (0 + 2))) HPO.out
                      refine hnew.trans ?_
                      have hjf2 : 2 < fr := hjf
                      simp [encOp, partR, hjf2]
                      try omega
                  · have hmin : min 2 fr = min 3 fr := by omega
                    have hjf' : ¬ ((2 : Nat) : Int) < (fr : Int) := by omega
                    rw [hmin]
                    clear hpo hqo hbo
                    go_wp2_with fail
                    refine ⟨⟨3, by omega, rfl, rfl, ?_, HQO.out, HBO.out, HRO.out⟩, by simp [intOf]⟩
                    rw [HPO.out]
                    simp [encOp, partR]
                    omega
                · have hmin : min 3 fr = fr := by omega
                  rw [hmin]
                  clear hqo hbo
                  obtain ⟨R, hR⟩ : ∃ x, x = r.drop (0 + fr) := ⟨_, rfl⟩
                  rw [← hR]
                  have hRl : 8 ≤ R.length := by have h1 := HNL.out; simp at h1; rw [hR]; simp; omega
                  have eR : ∀ (t : Nat), t < 8 → ∀ w, (Instr.index 9 (.string (strOf R)) (.int .i64 (t : Int))).run Tryz.prog w = .ok (.int .u8 (at8 r (0 + fr + t))) w := fun t ht w => by
                    have h := str_indexN R t (by omega) w
                    rw [hR, at8_drop] at h
                    rw [hR]
                    exact h
                  clear hR
                  have HER := hidI eR
                  have hpn := HPO.out
                  rw [← HBP.out] at hpn
                  have HPN := hidI (show wr.heap[bp]? = some (.cells (encOp { partR k ⟨false, fr, true, fl, fM⟩ r 3 with n := numP r (0 + fr) (0) }).toArray 62 (0, 0)) from hpn)
                  clear hpo eR HPO hpn
                  have hwp : w.heap.size ≤ bp := by rw [HBP.out]; exact hPw
                  have hpq2 : w1.heap.size ≠ bp := by rw [HBP.out]; exact hPQ
                  have hnp2 := hidI (show ∀ g, (Value.slice vo n9 vc).ownBlock = some g → g ≠ bp from fun g hg => by rw [HBP.out]; exact hNP.out g hg)
                  go_wp2_with fail
                  go_loopw [82] (fun i wz => ∃ t : Nat, t ≤ 8 ∧ i = .int .i64 (t : Int) ∧ wz.heap[bp]? = some (.cells (encOp { partR k ⟨false, fr, true, fl, fM⟩ r 3 with n := numP r (0 + fr) (t) }).toArray 62 (0, 0)) ∧ wz.heap[w1.heap.size]? = some (.cells #[.bool false, .int .i64 (fr : Int), .bool true, .int .i64 fl, .int .i64 fM] 64 (0, 0)) ∧ Below w.heap.size w wz ∧ wz.ownsRow w.heap.size 62 6 (.slice vo n9 vc) n9 (xs.flatMap encOp)) (fun i _ => (8 - intOf i).toNat)
                  case atStart => exact ⟨0, by omega, rfl, HPN.out, HQO.out, HBO.out, HRO.out⟩
                  case round =>
                    obtain ⟨t, ht, rfl, hpo2, hqo2, hbo2, hro2⟩ := hrel
                    have HPO := hidI hpo2
                    have HQO := hidI hqo2
                    have HBO := hidI hbo2
                    have HRO := hidI hro2
                    rw [HBP.out] at hpo2
                    by_cases ht8 : t < 8
                    · obtain ⟨X, hX⟩ : ∃ x, x = numP r (0 + fr) t := ⟨_, rfl⟩
                      obtain ⟨Y, hY⟩ : ∃ x, x = at8 r (0 + fr + t) := ⟨_, rfl⟩
                      have n0 : wr.cell? ⟨_, 5, none⟩ = some (.int .i64 X) := cell_of_block hpo2 (by rw [hX]; rfl)
                      have n1 : wr.frozen? ⟨_, 5, none⟩ = false := free_of_block hpo2
                      have eI := HER.out t ht8
                      rw [← hY] at eI
                      have hor : bits BinOp.or IntKind.i64 (wrap64 (X * 256)) Y = wrap64 (X * 256 + Y) := shl_or X Y (by rw [hY]; exact (at8_rng _ _).1) (by rw [hY]; exact (at8_rng _ _).2)
                      have hy0 : 0 ≤ Y := by rw [hY]; exact (at8_rng _ _).1
                      have hy1 : Y < 256 := by rw [hY]; exact (at8_rng _ _).2
                      have HX := hidI hX
                      have HY := hidI hY
                      clear hpo2 hqo2 hbo2 hro2 hX hY
                      go_wp2_with fail
                      go_region
                      all_goals go_wp2_with fail
                      all_goals
                        refine ⟨⟨t + 1, by omega, by go_num, ?_, block_other HQO.out hPQ, (HBO.out.setCell hPw _).drew, ownsRow_chg HRO.out ((Chg.refl (fun k => k = _) wr).setCell (p := ⟨_, 5, none⟩) (.inl rfl) _).drew (fun g hg e => hNP.out g hg e)⟩, by simp [intOf]; omega⟩
                        have hpo3 := HPO.out
                        rw [HBP.out] at hpo3 ⊢
                        have hnew := block_setCell (o := 5) (.int .i64 (wrap64 (X * 256 + Y))) hpo3
                        refine hnew.trans ?_
                        rw [show numP r (0 + fr) (t + 1) = wrap64 (X * 256 + Y) from by rw [HX.out, HY.out, wrap64_wr]; rfl]
                        simp [encOp]
                    · obtain rfl : t = 8 := by omega
                      obtain ⟨O, hO⟩ : ∃ x, x = opOf k ⟨false, fr, true, fl, fM⟩ r := ⟨_, rfl⟩
                      have hOO := hpo2
                      rw [show ({ partR k ⟨false, fr, true, fl, fM⟩ r 3 with n := numP r (0 + fr) 8 } : OpD) = O from by rw [hO, numP_8]; simp [partR, opOf]] at hOO
                      clear hpo2 hqo2 hbo2 hro2
                      have HOO := hidI hOO
                      have HWO := hidI (show wfOp O from by rw [hO]; exact opOf_wf _ _ _)
                      have HO := hidI hO
                      have p0 : wr.cell? ⟨_, 0, none⟩ = some (.int .u8 O.kind) := cell_of_block hOO rfl
                      have p1 : wr.cell? ⟨_, 1, none⟩ = some (.int .u8 O.cal) := cell_of_block hOO rfl
                      have p2 : wr.cell? ⟨_, 2, none⟩ = some (.int .u8 O.a) := cell_of_block hOO rfl
                      have p3 : wr.cell? ⟨_, 3, none⟩ = some (.int .u8 O.b) := cell_of_block hOO rfl
                      have p4 : wr.cell? ⟨_, 4, none⟩ = some (.int .u8 O.c) := cell_of_block hOO rfl
                      have p5 : wr.cell? ⟨_, 5, none⟩ = some (.int .i64 O.n) := cell_of_block hOO rfl
                      clear hOO hO
                      go_wp2_with fail
                      refine (check_any _ O HWO.out).mono ?_
                      rintro e w2 ⟨rfl, hb2⟩
                      have z0 := cell_later hb2 p0
                      have z1 := cell_later hb2 p1
                      have z2 := cell_later hb2 p2
                      have z3 := cell_later hb2 p3
                      have z4 := cell_later hb2 p4
                      have z5 := cell_later hb2 p5
                      have HB2 := hidI (HBO.out.trans (hb2.mono HBO.out.size))
                      have HR2 := hidI (ownsRow_chg HRO.out (Chg.of_below (S := fun _ => False) hb2) (fun _ _ => id))
                      clear hb2 p0 p1 p2 p3 p4 p5
                      cases hck : checkS O with
                      | false =>
                        have hno : parse1 (k :: r) = none := by
                          have hnl := HNL.out
                          simp at hnl
                          simp only [parse1, HF.out]
                          rw [if_neg (by simp [needF]; omega), ← HO.out, if_neg (by rw [hck]; decide)]
                        have HNO := hidI hno
                        clear hno hck
                        unfold codeV
                        go_wp2_with fail
                        go_ret3
                        exact .inr ⟨p, 13, rfl, ⟨xs, _, HG.out, HBX.out, HP.out, by simp, .inr ⟨rfl, HLT.out, HNO.out⟩⟩, HB2.out⟩
                      | true =>
                        have hyes : parse1 (k :: r) = some (O, 1 + needF ⟨false, fr, true, fl, fM⟩) := by
                          have hnl := HNL.out
                          simp at hnl
                          simp only [parse1, HF.out]
                          rw [if_neg (by simp [needF]; omega), ← HO.out, if_pos hck]
                        obtain ⟨-, -, hm, tt, htt⟩ := parse_sound hyes
                        have HM := hidI (show (bytesS O).length = 1 + (0 + fr + 8) from by rw [← hm]; first | (simp [needF]; done) | (simp [needF]; omega))
                        have HTT := hidI htt
                        have HCK := hidI hck
                        clear hyes hm htt hck
                        unfold codeV
                        go_wp2_with (at_builtin; refine wpList_append_d _ rfl _ _ 22 rfl w.heap.size 62 i0 _ 6 16 Tryz.underlying22 hi hz0 hz1 hz2 rfl (by decide) _ _ _ rfl (ownsRow_chg HR2.out ((Chg.refl (fun _ => False) w2).alloc _) (fun _ _ => id)) ⟨w2.heap.size, 0, none⟩ 1 1 (encOp O) rfl rfl ?c1 ?c2 ?c3 ?c4 ?c5 ?_)
                        case c1 => exact news_at (block_new _ _)
                        case c2 => intro u hu; simp [encOp] at hu; rcases hu with rfl | rfl | rfl | rfl | rfl | rfl <;> rfl
                        case c3 => unfold maxLen; omega
                        case c4 => omega
                        case c5 => have h9 := HB2.out.size; simp; omega
                        intro ao3 cp3 w3 hown3 hfrom3 hgr3
                        have hc3 : Chg (fun j => (Value.slice vo n9 vc).ownBlock = some j) w2 w3 := ((Chg.refl _ w2).alloc _).grown hgr3 (fun k hk => .inl hk)
                        have HB3 := hidI (HB2.out.trans (hc3.to_below HB2.out.size (fun k hk => (HR2.out.lt k hk).1)))
                        have HO3 := hidI hown3
                        clear hown3 hfrom3 hgr3 hc3
                        have hlen2 : p + (1 + (0 + fr + 8)) ≤ bs.length := by have h1 := HNL.out; have h2 := HLEN.out; simp at h1; omega
                        go_wp2_with fail
                        refine ⟨⟨xs ++ [O], tt, p + (1 + (0 + fr + 8)), by go_num, ?_, ?_, HG.out.snoc HCK.out HWO.out, ?_, HB3.out, ?_⟩, ?_⟩
                        · rw [HBX.out, HTT.out]
                          simp
                        · rw [List.flatMap_append, List.length_append, ← HP.out]
                          simp [HM.out]
                        · rw [List.length_append, ← HN9.out]
                          simp
                          omega
                        · have h9 := HO3.out
                          rw [flat_snoc, List.length_append, ← HN9.out]
                          exact h9
                        · simp [intOf]
                          omega
          | true =>
            obtain ⟨-, hfn⟩ := form_cal HF.out rfl
            simp only at hfn
            subst hfn
            have hsuf : ¬ ((r.length : Int) < (need : Int)) := by omega
            have hnl : 1 + fr + (if false = true then 8 else 0) ≤ r.length := by rw [HNEED.out] at hshort; simp [needF] at hshort ⊢; omega
            have HNL := hidI hnl
            obtain ⟨bp, hbp⟩ : ∃ x, x = wr.heap.size := ⟨_, rfl⟩
            have HBP := hidI hbp
            clear hbp
            have hPQ : w1.heap.size ≠ wr.heap.size := by have := lt_of_block HBLK.out; omega
            have hPw : w.heap.size ≤ wr.heap.size := HBEL.out.size
            have hNP := hidI (show ∀ g, (Value.slice vo n9 vc).ownBlock = some g → g ≠ wr.heap.size from fun g hg e => by have := (HOWN'.out.lt g hg).2; omega)
            have hlr0 : 0 < r.length := by have := HNL.out; simp at this; omega
            obtain ⟨R1, hR1⟩ : ∃ x, x = r.drop 1 := ⟨_, rfl⟩
            have e1 := str_index0 r hlr0
            have e2 := str_from1 r hlr0
            rw [← hR1] at e2
            have HR1 := hidI hR1
            have hblk := HBLK.out
            have hblk' : w1.heap[wr.heap.size]? = some (.cells #[.int .u8 (k.toNat : Int), .int .u8 0, .int .u8 0, .int .u8 0, .int .u8 0, .int .i64 0] 62 (0, 0)) := hblk
            have c1 : (w1.alloc (.cells #[.bool true, .int .i64 (fr : Int), .bool false, .int .i64 fl, .int .i64 fM] 64)).cell? ⟨wr.heap.size, 1, none⟩ = some (.int .u8 0) := cell_of_block (y _) rfl
            have c2 : (w1.alloc (.cells #[.bool true, .int .i64 (fr : Int), .bool false, .int .i64 fl, .int .i64 fM] 64)).frozen? ⟨wr.heap.size, 1, none⟩ = false := free_of_block (y _)
            have hs2 : ¬ r.length < fr + 1 := by have := HNL.out; simp at this; omega
            have hset := block_setCell (o := 1) (.int .u8 (at8 r 0)) (y (.cells #[.bool true, .int .i64 (fr : Int), .bool false, .int .i64 fl, .int .i64 fM] 64))
            have HP0 := hidI (show ((w1.alloc (.cells #[.bool true, .int .i64 (fr : Int), .bool false, .int .i64 fl, .int .i64 fM] 64)).setCell ⟨wr.heap.size, 1, none⟩ (.int .u8 (at8 r 0))).heap[wr.heap.size]? = some (.cells (encOp (partR k ⟨true, fr, false, fl, fM⟩ r 0)).toArray 62 (0, 0)) from by rw [hset]; simp [encOp, partR])
            have HQ0 := hidI (show ((w1.alloc (.cells #[.bool true, .int .i64 (fr : Int), .bool false, .int .i64 fl, .int .i64 fM] 64)).setCell ⟨wr.heap.size, 1, none⟩ (.int .u8 (at8 r 0))).heap[w1.heap.size]? = some (.cells #[.bool true, .int .i64 (fr : Int), .bool false, .int .i64 fl, .int .i64 fM] 64 (0, 0)) from block_other (block_new _ _) hPQ)
            have hb1s := HBEL.out.trans (HB1.out.mono HBEL.out.size)
            have HB0 := hidI ((hb1s.alloc hb1s.size (.cells #[.bool true, .int .i64 (fr : Int), .bool false, .int .i64 fl, .int .i64 fM] 64)).setCell (p := ⟨wr.heap.size, 1, none⟩) hPw (.int .u8 (at8 r 0)))
            have HR0 := hidI (ownsRow_chg HOWN'.out (((Chg.of_below (S := fun k => k = wr.heap.size) HB1.out).alloc (.cells #[.bool true, .int .i64 (fr : Int), .bool false, .int .i64 fl, .int .i64 fM] 64)).setCell (p := ⟨wr.heap.size, 1, none⟩) (.inl rfl) (.int .u8 (at8 r 0))) (fun g hg e => hNP.out g hg e))
            clear hset
            clear y hneed hnl hshort hblk hblk' hb1s hR1
            go_wp2_with fail
            go_region
            go_wp2_with fail
            go_loopw [65, 8] (fun i v wz => ∃ j : Nat, j ≤ 3 ∧ i = .int .i64 (j : Int) ∧ v = .string (strOf (r.drop (1 + min j fr))) ∧ wz.heap[wr.heap.size]? = some (.cells (encOp (partR k ⟨true, fr, false, fl, fM⟩ r j)).toArray 62 (0, 0)) ∧ wz.heap[w1.heap.size]? = some (.cells #[.bool true, .int .i64 (fr : Int), .bool false, .int .i64 fl, .int .i64 fM] 64 (0, 0)) ∧ Below w.heap.size w wz ∧ wz.ownsRow w.heap.size 62 6 (.slice vo n9 vc) n9 (xs.flatMap encOp)) (fun i _ _ => (3 - intOf i).toNat)
            case atStart => exact ⟨0, by omega, rfl, by rw [HR1.out]; simp, HP0.out, HQ0.out, HB0.out.drew, HR0.out⟩
            case round =>
              obtain ⟨j, hj, rfl, rfl, hpo, hqo, hbo, hro⟩ := hrel
              have HRO := hidI hro
              clear hro
              have HPO := hidI hpo
              have HQO := hidI hqo
              have HBO := hidI hbo
              have g1 : wr.cell? ⟨w1.heap.size, 1, none⟩ = some (.int .i64 (fr : Int)) := cell_of_block hqo rfl
              have g2 : wr.cell? ⟨w1.heap.size, 2, none⟩ = some (.bool false) := cell_of_block hqo rfl
              rcases (by omega : j = 0 ∨ j = 1 ∨ j = 2 ∨ j = 3) with rfl | rfl | rfl | rfl
              · by_cases hjf : 0 < fr
                · have hmin : min 0 fr = 0 := by omega
                  rw [hmin]
                  have hjf' : ((0 : Nat) : Int) < (fr : Int) := by omega
                  have hmin2 : min 1 fr = 1 := by omega
                  obtain ⟨R, hR⟩ : ∃ x, x = r.drop (1 + 0) := ⟨_, rfl⟩
                  obtain ⟨R2, hR2⟩ : ∃ x, x = r.drop (1 + 1) := ⟨_, rfl⟩
                  have hlr : 0 < R.length := by rw [hR]; simp; omega
                  have e1 : ∀ w, (Instr.index 9 (.string (strOf R)) (.int .i64 0)).run Tryz.prog w = .ok (.int .u8 (at8 r (1 + 0))) w := fun w => by
                    have h := str_index0 R hlr w
                    rw [hR, at8_drop] at h
                    rw [hR]
                    exact h
                  have e2 : ∀ w, (Instr.sliceAt 9 (.string (strOf R)) (some (.int .i64 1)) none none).run Tryz.prog w = .ok (.string (strOf R2)) w := fun w => by
                    have h := str_from1 R hlr w
                    rw [show R.drop 1 = R2 from by rw [hR, hR2, List.drop_drop]] at h
                    exact h
                  rw [← hR]
                  have HR2 := hidI hR2
                  have p1 : wr.cell? ⟨_, 2, none⟩ = some (.int .u8 0) := cell_of_block hpo (by simp [encOp, partR])
                  have p2 : wr.frozen? ⟨_, 2, none⟩ = false := free_of_block hpo
                  clear hpo hqo hbo hR hR2
                  go_wp2_with fail
                  go_region
                  all_goals go_wp2_with fail
                  all_goals
                    refine ⟨⟨1, by omega, rfl, by rw [HR2.out, hmin2], ?_, block_other HQO.out hPQ, (HBO.out.setCell hPw _).drew, ownsRow_chg HRO.out ((Chg.refl (fun k => k = _) wr).setCell (p := ⟨_, 2, none⟩) (.inl rfl) _).drew (fun g hg e => hNP.out g hg e)⟩, by simp [intOf]⟩
                    have hnew := block_setCell (o := 2) (.int .u8 (at8 r (1 + 0))) HPO.out
                    refine hnew.trans ?_
                    have hjf2 : 0 < fr := hjf
                    simp [encOp, partR, hjf2]
                    try omega
                · have hmin : min 0 fr = min 1 fr := by omega
                  have hjf' : ¬ ((0 : Nat) : Int) < (fr : Int) := by omega
                  rw [hmin]
                  clear hpo hqo hbo
                  go_wp2_with fail
                  refine ⟨⟨1, by omega, rfl, rfl, ?_, HQO.out, HBO.out, HRO.out⟩, by simp [intOf]⟩
                  rw [HPO.out]
                  simp [encOp, partR]
                  omega
              · by_cases hjf : 1 < fr
                · have hmin : min 1 fr = 1 := by omega
                  rw [hmin]
                  have hjf' : ((1 : Nat) : Int) < (fr : Int) := by omega
                  have hmin2 : min 2 fr = 2 := by omega
                  obtain ⟨R, hR⟩ : ∃ x, x = r.drop (1 + 1) := ⟨_, rfl⟩
                  obtain ⟨R2, hR2⟩ : ∃ x, x = r.drop (1 + 2) := ⟨_, rfl⟩
                  have hlr : 0 < R.length := by rw [hR]; simp; omega
                  have e1 : ∀ w, (Instr.index 9 (.string (strOf R)) (.int .i64 0)).run Tryz.prog w = .ok (.int .u8 (at8 r (1 + 1))) w := fun w => by
                    have h := str_index0 R hlr w
                    rw [hR, at8_drop] at h
                    rw [hR]
                    exact h
                  have e2 : ∀ w, (Instr.sliceAt 9 (.string (strOf R)) (some (.int .i64 1)) none none).run Tryz.prog w = .ok (.string (strOf R2)) w := fun w => by
                    have h := str_from1 R hlr w
                    rw [show R.drop 1 = R2 from by rw [hR, hR2, List.drop_drop]] at h
                    exact h
                  rw [← hR]
                  have HR2 := hidI hR2
                  have p1 : wr.cell? ⟨_, 3, none⟩ = some (.int .u8 0) := cell_of_block hpo (by simp [encOp, partR])
                  have p2 : wr.frozen? ⟨_, 3, none⟩ = false := free_of_block hpo
                  clear hpo hqo hbo hR hR2
                  go_wp2_with fail
                  go_region
                  all_goals go_wp2_with fail
                  all_goals
                    refine ⟨⟨2, by omega, rfl, by rw [HR2.out, hmin2], ?_, block_other HQO.out hPQ, (HBO.out.setCell hPw _).drew, ownsRow_chg HRO.out ((Chg.refl (fun k => k = _) wr).setCell (p := ⟨_, 3, none⟩) (.inl rfl) _).drew (fun g hg e => hNP.out g hg e)⟩, by simp [intOf]⟩
                    have hnew := block_setCell (o := 3) (.int .u8 (at8 r (1 + 1))) HPO.out
                    refine hnew.trans ?_
                    have hjf2 : 1 < fr := hjf
                    simp [encOp, partR, hjf2]
                    try omega
                · have hmin : min 1 fr = min 2 fr := by omega
                  have hjf' : ¬ ((1 : Nat) : Int) < (fr : Int) := by omega
                  rw [hmin]
                  clear hpo hqo hbo
                  go_wp2_with fail
                  refine ⟨⟨2, by omega, rfl, rfl, ?_, HQO.out, HBO.out, HRO.out⟩, by simp [intOf]⟩
                  rw [HPO.out]
                  simp [encOp, partR]
                  omega
              · by_cases hjf : 2 < fr
                · have hmin : min 2 fr = 2 := by omega
                  rw [hmin]
                  have hjf' : ((2 : Nat) : Int) < (fr : Int) := by omega
                  have hmin2 : min 3 fr = 3 := by omega
                  obtain ⟨R, hR⟩ : ∃ x, x = r.drop (1 + 2) := ⟨_, rfl⟩
                  obtain ⟨R2, hR2⟩ : ∃ x, x = r.drop (1 + 3) := ⟨_, rfl⟩
                  have hlr : 0 < R.length := by rw [hR]; simp; omega
                  have e1 : ∀ w, (Instr.index 9 (.string (strOf R)) (.int .i64 0)).run Tryz.prog w = .ok (.int .u8 (at8 r (1 + 2))) w := fun w => by
                    have h := str_index0 R hlr w
                    rw [hR, at8_drop] at h
                    rw [hR]
                    exact h
                  have e2 : ∀ w, (Instr.sliceAt 9 (.string (strOf R)) (some (.int .i64 1)) none none).run Tryz.prog w = .ok (.string (strOf R2)) w := fun w => by
                    have h := str_from1 R hlr w
                    rw [show R.drop 1 = R2 from by rw [hR, hR2, List.drop_drop]] at h
                    exact h
                  rw [← hR]
                  have HR2 := hidI hR2
                  have p1 : wr.cell? ⟨_, 4, none⟩ = some (.int .u8 0) := cell_of_block hpo (by simp [encOp, partR])
                  have p2 : wr.frozen? ⟨_, 4, none⟩ = false := free_of_block hpo
                  clear hpo hqo hbo hR hR2
                  go_wp2_with fail
                  go_region
                  all_goals go_wp2_with fail
                  all_goals
                    refine ⟨⟨3, by omega, rfl, by rw [HR2.out, hmin2], ?_, block_other HQO.out hPQ, (HBO.out.setCell hPw _).drew, ownsRow_chg HRO.out ((Chg.refl (fun k => k = _) wr).setCell (p := ⟨_, 4, none⟩) (.inl rfl) _).drew (fun g hg e => hNP.out g hg e)⟩, by simp [intOf]⟩
                    have hnew := block_setCell (o := 4) (.int .u8 (at8 r (1 + 2))) HPO.out
                    refine hnew.trans ?_
                    have hjf2 : 2 < fr := hjf
                    simp [encOp, partR, hjf2]
                    try omega
                · have hmin : min 2 fr = min 3 fr := by omega
                  have hjf' : ¬ ((2 : Nat) : Int) < (fr : Int) := by omega
                  rw [hmin]
                  clear hpo hqo hbo
                  go_wp2_with fail
                  refine ⟨⟨3, by omega, rfl, rfl, ?_, HQO.out, HBO.out, HRO.out⟩, by simp [intOf]⟩
                  rw [HPO.out]
                  simp [encOp, partR]
                  omega
              · have hmin : min 3 fr = fr := by omega
                rw [hmin]
                obtain ⟨O, hO⟩ : ∃ x, x = opOf k ⟨true, fr, false, fl, fM⟩ r := ⟨_, rfl⟩
                have hOO := HPO.out
                rw [show partR k ⟨true, fr, false, fl, fM⟩ r 3 = O from by rw [hO]; simp [partR, opOf]] at hOO
                clear hpo hqo hbo
                have HOO := hidI hOO
                have HWO := hidI (show wfOp O from by rw [hO]; exact opOf_wf _ _ _)
                have HO := hidI hO
                have p0 : wr.cell? ⟨_, 0, none⟩ = some (.int .u8 O.kind) := cell_of_block hOO rfl
                have p1 : wr.cell? ⟨_, 1, none⟩ = some (.int .u8 O.cal) := cell_of_block hOO rfl
                have p2 : wr.cell? ⟨_, 2, none⟩ = some (.int .u8 O.a) := cell_of_block hOO rfl
                have p3 : wr.cell? ⟨_, 3, none⟩ = some (.int .u8 O.b) := cell_of_block hOO rfl
                have p4 : wr.cell? ⟨_, 4, none⟩ = some (.int .u8 O.c) := cell_of_block hOO rfl
                have p5 : wr.cell? ⟨_, 5, none⟩ = some (.int .i64 O.n) := cell_of_block hOO rfl
                clear hOO hO
                go_wp2_with fail
                refine (check_any _ O HWO.out).mono ?_
                rintro e w2 ⟨rfl, hb2⟩
                have z0 := cell_later hb2 p0
                have z1 := cell_later hb2 p1
                have z2 := cell_later hb2 p2
                have z3 := cell_later hb2 p3
                have z4 := cell_later hb2 p4
                have z5 := cell_later hb2 p5
                have HB2 := hidI (HBO.out.trans (hb2.mono HBO.out.size))
                have HR2 := hidI (ownsRow_chg HRO.out (Chg.of_below (S := fun _ => False) hb2) (fun _ _ => id))
                clear hb2 p0 p1 p2 p3 p4 p5
                cases hck : checkS O with
                | false =>
                  have hno : parse1 (k :: r) = none := by
                    have hnl := HNL.out
                    simp at hnl
                    simp only [parse1, HF.out]
                    rw [if_neg (by simp [needF]; omega), ← HO.out, if_neg (by rw [hck]; decide)]
                  have HNO := hidI hno
                  clear hno hck
                  unfold codeV
                  go_wp2_with fail
                  go_ret3
                  exact .inr ⟨p, 13, rfl, ⟨xs, _, HG.out, HBX.out, HP.out, by simp, .inr ⟨rfl, HLT.out, HNO.out⟩⟩, HB2.out⟩
                | true =>
                  have hyes : parse1 (k :: r) = some (O, 1 + needF ⟨true, fr, false, fl, fM⟩) := by
                    have hnl := HNL.out
                    simp at hnl
                    simp only [parse1, HF.out]
                    rw [if_neg (by simp [needF]; omega), ← HO.out, if_pos hck]
                  obtain ⟨-, -, hm, tt, htt⟩ := parse_sound hyes
                  have HM := hidI (show (bytesS O).length = 1 + (1 + fr + 0) from by rw [← hm]; first | (simp [needF]; done) | (simp [needF]; omega))
                  have HTT := hidI htt
                  have HCK := hidI hck
                  clear hyes hm htt hck
                  unfold codeV
                  go_wp2_with (at_builtin; refine wpList_append_d _ rfl _ _ 22 rfl w.heap.size 62 i0 _ 6 16 Tryz.underlying22 hi hz0 hz1 hz2 rfl (by decide) _ _ _ rfl (ownsRow_chg HR2.out ((Chg.refl (fun _ => False) w2).alloc _) (fun _ _ => id)) ⟨w2.heap.size, 0, none⟩ 1 1 (encOp O) rfl rfl ?c1 ?c2 ?c3 ?c4 ?c5 ?_)
                  case c1 => exact news_at (block_new _ _)
                  case c2 => intro u hu; simp [encOp] at hu; rcases hu with rfl | rfl | rfl | rfl | rfl | rfl <;> rfl
                  case c3 => unfold maxLen; omega
                  case c4 => omega
                  case c5 => have h9 := HB2.out.size; simp; omega
                  intro ao3 cp3 w3 hown3 hfrom3 hgr3
                  have hc3 : Chg (fun j => (Value.slice vo n9 vc).ownBlock = some j) w2 w3 := ((Chg.refl _ w2).alloc _).grown hgr3 (fun k hk => .inl hk)
                  have HB3 := hidI (HB2.out.trans (hc3.to_below HB2.out.size (fun k hk => (HR2.out.lt k hk).1)))
                  have HO3 := hidI hown3
                  clear hown3 hfrom3 hgr3 hc3
                  have hlen2 : p + (1 + (1 + fr + 0)) ≤ bs.length := by have h1 := HNL.out; have h2 := HLEN.out; simp at h1; omega
                  go_wp2_with fail
                  refine ⟨⟨xs ++ [O], tt, p + (1 + (1 + fr + 0)), by go_num, ?_, ?_, HG.out.snoc HCK.out HWO.out, ?_, HB3.out, ?_⟩, ?_⟩
                  · rw [HBX.out, HTT.out]
                    simp
                  · rw [List.flatMap_append, List.length_append, ← HP.out]
                    simp [HM.out]
                  · rw [List.length_append, ← HN9.out]
                    simp
                    omega
                  · have h9 := HO3.out
                    rw [flat_snoc, List.length_append, ← HN9.out]
                    exact h9
                  · simp [intOf]
                    omega
end Go.Proofs.YtbfghkhfiflibaaGreatDoor

/- PlayNames: the chapter's scripts and refusals. -/
import Derived.Test.YtnechkhgceeejaaPlayL
namespace Go.Proofs.Ytnechkhgceeejaa
open Go.RowKit
set_option linter.unusedVariables false
set_option linter.unusedSimpArgs false

variable {w w' : World}

def pnA : List PickD := [⟨0, 0, 3⟩, ⟨2, 0, 2⟩]
def pnB : List PickD := [⟨0, 0, -1⟩]
def pnC : List PickD := [⟨1, 0, 1048577⟩]
def pnD : List PickD := [⟨2, 0, 2⟩]
def pnE : List PickD := [⟨0, 0, 9⟩]
def pnF : List PickD := [⟨2, 0, 9⟩]
def waitsOps : List OpD := [⟨1, 0, 1, 0, 0, 1⟩, ⟨5, 0, 0, 1, 0, 1⟩, ⟨10, 0, 0, 0, 0, 0⟩, ⟨14, 0, 0, 0, 0, 0⟩]
def pnS : MM × Int := doActs (newM 2 [waitsOps] [], 0) (actsS pnE)
def pnT : MM × Int := doActs (newM 2 [waitsOps] [], 0) (actsS pnF)
theorem pnS_eq (v : Value) : doActs (newM 2 (([(v, waitsOps)] : List (Value × List OpD)).map (·.2)) [], 0) (actsS pnE) = pnS := rfl
theorem pnT_eq (v : Value) : doActs (newM 2 (([(v, waitsOps)] : List (Value × List OpD)).map (·.2)) [], 0) (actsS pnF) = pnT := rfl
theorem pnS_seen : pnS.1.ths.map (fun t => (t.out, t.fin)) = [([], 0)] := by kernel_rfl
theorem pnS_steps : pnS.2 = 2 := by kernel_rfl
theorem pnT_seen : pnT.1.ths.map (fun t => (t.out, t.fin)) = [([], 1)] := by kernel_rfl
theorem pnT_steps : pnT.2 = 4 := by kernel_rfl
theorem pnTail : tailSt 3 pnD = (0, [⟨2, 0, 1⟩, ⟨0, 0, 1⟩], [⟨1, 0, 1⟩]) := by decide

theorem trace1 {e : Ending} {S : MM × Int} {o : List Int} {k : Int} (h : RunTrace S w e w') (hs : S.1.ths.map (fun t => (t.out, t.fin)) = [(o, k)]) :
    ∃ ga ao c ve vec, e = .returned (.tuple #[.agg #[.slice (some ⟨ga, 0, none⟩) 1 1, .slice ve S.1.evs.length vec, .int .i64 S.2], .int .i64 0]) ∧ w'.cell? ⟨ga, 0, none⟩ = some (.slice ao o.length c) ∧ w'.cell? ⟨ga, 1, none⟩ = some (.int .u8 k) ∧ RdT encI w' 1 (.slice ao o.length c) o ∧ Below w.heap.size w w' := by
  obtain ⟨ga, ls, ve, vec, rfl, hrow, hse, -, hms, hev, -, hb2⟩ := h
  rw [hs] at hms
  obtain ⟨s, rfl⟩ : ∃ s, ls = [s] := by
    cases ls with
    | nil => simp at hms
    | cons s r =>
      cases r with
      | nil => exact ⟨s, rfl⟩
      | cons s2 r => simp at hms
  have ho : s.out = o ∧ s.fin = k := by simpa using hms
  obtain ⟨sv, so, sf⟩ := s
  obtain ⟨rfl, rfl⟩ := ho
  have hs1 := (hse _ (List.mem_singleton.2 rfl)).1
  obtain ⟨sao, sc, hsv⟩ := ownsRow_shape hs1
  simp only at hsv
  subst hsv
  obtain ⟨gb, co, e1, hgb, hcc⟩ := RdT.at encS_len (Rd.of_own hrow) (k := 0) (x := ⟨.slice sao so.length sc, so, sf⟩) rfl
  cases e1
  exact ⟨ga, sao, sc, ve, vec, rfl, by have := hcc 0 _ rfl; simpa using this, by have := hcc 1 _ rfl; simpa using this, Rd.of_own hs1, hb2⟩

set_option maxRecDepth 100000 in
set_option maxHeartbeats 400000 in
theorem pnames_any (w : World) : Calls Try.prog 9 #[] w fun e w' => e = .returned (.bool true) ∧ Below w.heap.size w w' := by
  go_enter Try.func9, Try.ntmps9
  go_wp2_with fail
  refine (length_any (l := []) (Rd.nil w 3) (by simp) (by simp)).mono ?_
  rintro e w1 ⟨rfl, hb⟩
  rw [show lengthS [] = (0, 0) from by decide]
  have HB := hidI hb
  clear hb
  go_wp2_with fail
  refine (length_any (l := pnA) (lit_rows (l := pnA) encPk_len (block_new w1 _)) (by decide) (by decide)).mono ?_
  rintro e w2 ⟨rfl, hb⟩
  rw [show lengthS pnA = (7, 0) from by decide]
  have HB := hidI (bnextA HB.out hb)
  clear hb
  go_wp2_with fail
  refine (length_any (l := pnB) (lit_rows (l := pnB) encPk_len (block_new w2 _)) (by decide) (by decide)).mono ?_
  rintro e w3 ⟨rfl, hb⟩
  rw [show lengthS pnB = (0, 1) from by decide]
  have HB := hidI (bnextA HB.out hb)
  clear hb
  go_wp2_with fail
  refine (length_any (l := pnC) (lit_rows (l := pnC) encPk_len (block_new w3 _)) (by decide) (by decide)).mono ?_
  rintro e w4 ⟨rfl, hb⟩
  rw [show lengthS pnC = (0, 3) from by decide]
  have HB := hidI (bnextA HB.out hb)
  clear hb
  go_wp2_with fail
  have hD := lit_rows (l := pnD) encPk_len (block_new w4 (.cells (pnD.flatMap encPk).toArray 85))
  refine (tail_yes (l := pnD) hD (by decide) 3 (by decide)).mono ?_
  rintro e w5 ⟨va, vb, rfl, hva, hvb, -, hb⟩
  rw [pnTail] at hva hvb
  obtain ⟨xao, xac, rfl⟩ := ownsRow_shape hva
  obtain ⟨yao, yac, rfl⟩ := ownsRow_shape hvb
  have HX := hidI (Rd.of_own hva)
  have HY := hidI (Rd.of_own hvb)
  have HD := hidI (Rd.below hD hb)
  have HB := hidI (bnextA HB.out hb)
  clear hva hvb hb hD
  go_wp2_with fail
  refine (tail_no (l := pnD) HD.out (by decide) (by decide) 5 (by decide)).mono ?_
  rintro e w6 ⟨rfl, hb⟩
  rw [show tailE pnD 5 = 1 from by decide]
  have HX := hidI (Rd.below HX.out hb)
  have HY := hidI (Rd.below HY.out hb)
  have HD := hidI (Rd.below HD.out hb)
  have HB := hidI (bnext HB.out hb)
  clear hb
  go_wp2_with fail
  refine (tail_no (l := pnD) HD.out (by decide) (by decide) (-1) (by decide)).mono ?_
  rintro e w7 ⟨rfl, hb⟩
  rw [show tailE pnD (-1) = 1 from by decide]
  have HX := hidI (Rd.below HX.out hb)
  have HY := hidI (Rd.below HY.out hb)
  have HB := hidI (bnext HB.out hb)
  clear hb HD
  go_wp2_with fail
  have hc0 := one_code w7 waitsOps (by decide)
  have hb3 : Below w7.heap.size w7 (((w7.alloc (.cells (waitsOps.flatMap encOp).toArray 25)).alloc (.cells #[.slice (some ⟨w7.heap.size, 0, none⟩) 4 4] 28)).alloc (.cells #[.slice (some ⟨w7.heap.size + 1, 0, none⟩) 1 1, .int .i64 2, .slice none 0 0] 56)) := (((Below.refl w7.heap.size w7).alloc (Nat.le_refl _) _).alloc (by simp) _).alloc (by simp; omega) _
  have hc3 : CodeAt (((w7.alloc (.cells (waitsOps.flatMap encOp).toArray 25)).alloc (.cells #[.slice (some ⟨w7.heap.size, 0, none⟩) 4 4] 28)).alloc (.cells #[.slice (some ⟨w7.heap.size + 1, 0, none⟩) 1 1, .int .i64 2, .slice none 0 0] 56)) (.slice (some ⟨w7.heap.size + 1, 0, none⟩) 1 1) [(.slice (some ⟨w7.heap.size, 0, none⟩) 4 4, waitsOps)] := hc0.below ((Below.refl _ _).alloc (Nat.le_refl _) _)
  have hb4 : Below (((w7.alloc (.cells (waitsOps.flatMap encOp).toArray 25)).alloc (.cells #[.slice (some ⟨w7.heap.size, 0, none⟩) 4 4] 28)).alloc (.cells #[.slice (some ⟨w7.heap.size + 1, 0, none⟩) 1 1, .int .i64 2, .slice none 0 0] 56)).heap.size (((w7.alloc (.cells (waitsOps.flatMap encOp).toArray 25)).alloc (.cells #[.slice (some ⟨w7.heap.size, 0, none⟩) 4 4] 28)).alloc (.cells #[.slice (some ⟨w7.heap.size + 1, 0, none⟩) 1 1, .int .i64 2, .slice none 0 0] 56)) ((((w7.alloc (.cells (waitsOps.flatMap encOp).toArray 25)).alloc (.cells #[.slice (some ⟨w7.heap.size, 0, none⟩) 4 4] 28)).alloc (.cells #[.slice (some ⟨w7.heap.size + 1, 0, none⟩) 1 1, .int .i64 2, .slice none 0 0] 56)).alloc (.cells (pnE.flatMap encPk).toArray 85)) := (Below.refl _ _).alloc (Nat.le_refl _) _
  have hsc : RdT encPk ((((w7.alloc (.cells (waitsOps.flatMap encOp).toArray 25)).alloc (.cells #[.slice (some ⟨w7.heap.size, 0, none⟩) 4 4] 28)).alloc (.cells #[.slice (some ⟨w7.heap.size + 1, 0, none⟩) 1 1, .int .i64 2, .slice none 0 0] 56)).alloc (.cells (pnE.flatMap encPk).toArray 85)) 3 (.slice (some ⟨w7.heap.size + 1 + 1 + 1, 0, none⟩) pnE.length pnE.length) pnE := by
    have h9 := lit_rows (l := pnE) encPk_len (block_new (((w7.alloc (.cells (waitsOps.flatMap encOp).toArray 25)).alloc (.cells #[.slice (some ⟨w7.heap.size, 0, none⟩) 4 4] 28)).alloc (.cells #[.slice (some ⟨w7.heap.size + 1, 0, none⟩) 1 1, .int .i64 2, .slice none 0 0] 56)) (.cells (pnE.flatMap encPk).toArray 85))
    rw [show (((w7.alloc (.cells (waitsOps.flatMap encOp).toArray 25)).alloc (.cells #[.slice (some ⟨w7.heap.size, 0, none⟩) 4 4] 28)).alloc (.cells #[.slice (some ⟨w7.heap.size + 1, 0, none⟩) 1 1, .int .i64 2, .slice none 0 0] 56)).heap.size = w7.heap.size + 1 + 1 + 1 from by simp] at h9
    exact h9
  have himg := block_new ((w7.alloc (.cells (waitsOps.flatMap encOp).toArray 25)).alloc (.cells #[.slice (some ⟨w7.heap.size, 0, none⟩) 4 4] 28)) (.cells #[.slice (some ⟨w7.heap.size + 1, 0, none⟩) 1 1, .int .i64 2, .slice none 0 0] 56)
  rw [show ((w7.alloc (.cells (waitsOps.flatMap encOp).toArray 25)).alloc (.cells #[.slice (some ⟨w7.heap.size, 0, none⟩) 4 4] 28)).heap.size = w7.heap.size + 1 + 1 from by simp] at himg
  have HC3 := hidI hc3
  have HX3 := hidI (Rd.below HX.out hb3)
  have HY3 := hidI (Rd.below HY.out hb3)
  have HB3 := hidI (bnext HB.out hb3)
  have HIMG := hidI himg
  have hsz3 : (((w7.alloc (.cells (waitsOps.flatMap encOp).toArray 25)).alloc (.cells #[.slice (some ⟨w7.heap.size, 0, none⟩) 4 4] 28)).alloc (.cells #[.slice (some ⟨w7.heap.size + 1, 0, none⟩) 1 1, .int .i64 2, .slice none 0 0] 56)).heap.size = w7.heap.size + 1 + 1 + 1 := by simp
  have HSZ3 := hidI hsz3
  clear hc0 hb3 himg hsz3
  refine (run_yes (l := [(.slice (some ⟨w7.heap.size, 0, none⟩) 4 4, waitsOps)]) (cs := []) (sc := pnE) (hc3.below hb4) (Rd.nil _ 2) 2 (by simp) (by simp) (by rfl) hsc (by decide) (by decide) (by rfl)).mono ?_
  intro e w8 hrt
  rw [pnS_eq] at hrt
  obtain ⟨ga, sao, scp, ve, vec, rfl, i0, i1, -, hb⟩ := trace1 hrt pnS_seen
  rw [pnS_steps]
  have hb38 : Below (((w7.alloc (.cells (waitsOps.flatMap encOp).toArray 25)).alloc (.cells #[.slice (some ⟨w7.heap.size, 0, none⟩) 4 4] 28)).alloc (.cells #[.slice (some ⟨w7.heap.size + 1, 0, none⟩) 1 1, .int .i64 2, .slice none 0 0] 56)).heap.size (((w7.alloc (.cells (waitsOps.flatMap encOp).toArray 25)).alloc (.cells #[.slice (some ⟨w7.heap.size, 0, none⟩) 4 4] 28)).alloc (.cells #[.slice (some ⟨w7.heap.size + 1, 0, none⟩) 1 1, .int .i64 2, .slice none 0 0] 56)) w8 := bnext hb4 hb
  have HC8 := hidI (HC3.out.below hb38)
  have HX8 := hidI (Rd.below HX3.out hb38)
  have HY8 := hidI (Rd.below HY3.out hb38)
  have HB8 := hidI (bnext HB3.out hb38)
  have m8 := blk hb38 HIMG.out
  generalize pnS.1.evs.length = nv1 at *
  clear hb38 hb hrt hsc hb4 hc3 HC3 HX3 HY3 HB3 HIMG HX HY HB
  have M8 := hidI m8
  have I0 := hidI i0
  have I1 := hidI i1
  have ma0 : ∀ o, (w8.alloc o).cell? ⟨w7.heap.size + 1 + 1, 0, none⟩ = some (.slice (some ⟨w7.heap.size + 1, 0, none⟩) 1 1) := fun o => cell_allocU (cell_of_block m8 rfl) o
  have ma1 : ∀ o, (w8.alloc o).cell? ⟨w7.heap.size + 1 + 1, 1, none⟩ = some (.int .i64 2) := fun o => cell_allocU (cell_of_block m8 rfl) o
  have ma2 : ∀ o, (w8.alloc o).cell? ⟨w7.heap.size + 1 + 1, 2, none⟩ = some (.slice none 0 0) := fun o => cell_allocU (cell_of_block m8 rfl) o
  clear m8 i0 i1
  go_wp2_with fail
  have htr := block_new w8 (.cells #[.slice (some ⟨ga, 0, none⟩) 1 1, .slice ve nv1 vec, .int .i64 2] 80)
  have hb8t : Below w8.heap.size w8 (w8.alloc (.cells #[.slice (some ⟨ga, 0, none⟩) 1 1, .slice ve nv1 vec, .int .i64 2] 80)) := (Below.refl _ _).alloc (Nat.le_refl _) _
  have hb9 : Below w8.heap.size w8 ((w8.alloc (.cells #[.slice (some ⟨ga, 0, none⟩) 1 1, .slice ve nv1 vec, .int .i64 2] 80)).alloc (.cells (pnF.flatMap encPk).toArray 85)) := hb8t.alloc (by simp) _
  have hsc9 := lit_rows (l := pnF) encPk_len (block_new2 w8 (.cells #[.slice (some ⟨ga, 0, none⟩) 1 1, .slice ve nv1 vec, .int .i64 2] 80) (.cells (pnF.flatMap encPk).toArray 85))
  refine (run_yes (l := [(.slice (some ⟨w7.heap.size, 0, none⟩) 4 4, waitsOps)]) (cs := []) (sc := pnF) (HC8.out.below hb9) (Rd.nil _ 2) 2 (by simp) (by simp) (by rfl) hsc9 (by decide) (by decide) (by rfl)).mono ?_
  intro e w10 hrt
  rw [pnT_eq] at hrt
  obtain ⟨ga2, sao2, scp2, ve2, vec2, rfl, j0, j1, -, hb⟩ := trace1 hrt pnT_seen
  rw [pnT_steps]
  have hb810 : Below w8.heap.size w8 w10 := bnext hb9 hb
  have HX10 := hidI (Rd.below HX8.out hb810)
  have HY10 := hidI (Rd.below HY8.out hb810)
  have HB10 := hidI (bnext HB8.out hb810)
  have t10 := blk hb (block_alloc (o := .cells (pnF.flatMap encPk).toArray 85) htr)
  have I10 := hidI ((World.cell?_of_block (hb810.block _ (World.block_lt_of_cell? _ _ I1.out))).trans I1.out)
  have J1 := hidI j1
  have T10 := hidI t10
  generalize pnT.1.evs.length = nv2 at *
  clear hb810 hb hrt hsc9 hb9 hb8t htr HC8 HX8 HY8 HB8 t10 j0 j1 ma0 ma1 ma2
  go_wp2_with fail
  have htr2 := block_new w10 (.cells #[.slice (some ⟨ga2, 0, none⟩) 1 1, .slice ve2 nv2 vec2, .int .i64 4] 80)
  have hb11 : Below w10.heap.size w10 ((w10.alloc (.cells #[.slice (some ⟨ga2, 0, none⟩) 1 1, .slice ve2 nv2 vec2, .int .i64 4] 80)).alloc (.cells (([⟨2, 0, 1⟩, ⟨0, 0, 1⟩] : List PickD).flatMap encPk).toArray 85)) := ((Below.refl _ _).alloc (Nat.le_refl _) _).alloc (by simp) _
  have hx := lit_rows (l := [⟨2, 0, 1⟩, ⟨0, 0, 1⟩]) encPk_len (block_new2 w10 (.cells #[.slice (some ⟨ga2, 0, none⟩) 1 1, .slice ve2 nv2 vec2, .int .i64 4] 80) (.cells (([⟨2, 0, 1⟩, ⟨0, 0, 1⟩] : List PickD).flatMap encPk).toArray 85))
  refine (samePicks_true (l := [⟨2, 0, 1⟩, ⟨0, 0, 1⟩]) (Rd.below HX10.out hb11) hx rfl rfl (by simp)).mono ?_
  rintro e w12 ⟨rfl, hb⟩
  have hb1012 := bnext hb11 hb
  have HY12 := hidI (Rd.below HY10.out hb1012)
  have HB12 := hidI (bnext HB10.out hb1012)
  have T12 := hidI (blk hb1012 T10.out)
  have I12 := hidI ((World.cell?_of_block (hb1012.block _ (World.block_lt_of_cell? _ _ I10.out))).trans I10.out)
  have J12 := hidI ((World.cell?_of_block (hb1012.block _ (World.block_lt_of_cell? _ _ J1.out))).trans J1.out)
  have U12 := hidI (blk hb (block_alloc (o := (.cells (([⟨2, 0, 1⟩, ⟨0, 0, 1⟩] : List PickD).flatMap encPk).toArray 85)) htr2))
  clear htr2 hb11 hx hb hb1012
  go_wp2_with fail
  have hb13 : Below w12.heap.size w12 (w12.alloc (.cells (([⟨1, 0, 1⟩] : List PickD).flatMap encPk).toArray 85)) := (Below.refl _ _).alloc (Nat.le_refl _) _
  have hy := lit_rows (l := [⟨1, 0, 1⟩]) encPk_len (block_new w12 (.cells (([⟨1, 0, 1⟩] : List PickD).flatMap encPk).toArray 85))
  refine (samePicks_true (l := [⟨1, 0, 1⟩]) (Rd.below HY12.out hb13) hy rfl rfl (by simp)).mono ?_
  rintro e w14 ⟨rfl, hb⟩
  have hb1214 := bnext hb13 hb
  have HB14 := hidI (bnext HB12.out hb1214)
  have T14 := hidI (blk hb1214 T12.out)
  have U14 := hidI (blk hb1214 U12.out)
  have I14 := hidI ((World.cell?_of_block (hb1214.block _ (World.block_lt_of_cell? _ _ I12.out))).trans I12.out)
  have J14 := hidI ((World.cell?_of_block (hb1214.block _ (World.block_lt_of_cell? _ _ J12.out))).trans J12.out)
  clear hb13 hy hb hb1214
  go_wp2_with fail
  refine (lives21 _).mono ?_
  rintro e w15 ⟨rfl, hb⟩
  have t15 := blk hb T14.out
  have u15 := blk hb U14.out
  have s0 : w15.cell? ⟨w8.heap.size, 0, none⟩ = some (.slice (some ⟨ga, 0, none⟩) 1 1) := cell_of_block t15 rfl
  have s2 : w15.cell? ⟨w8.heap.size, 2, none⟩ = some (.int .i64 2) := cell_of_block t15 rfl
  have v0 : w15.cell? ⟨w10.heap.size, 0, none⟩ = some (.slice (some ⟨ga2, 0, none⟩) 1 1) := cell_of_block u15 rfl
  have v2 : w15.cell? ⟨w10.heap.size, 2, none⟩ = some (.int .i64 4) := cell_of_block u15 rfl
  have i15 := (World.cell?_of_block (hb.block _ (World.block_lt_of_cell? _ _ I14.out))).trans I14.out
  have j15 := (World.cell?_of_block (hb.block _ (World.block_lt_of_cell? _ _ J14.out))).trans J14.out
  have HB15 := hidI (bnext HB14.out hb)
  clear hb t15 u15
  go_wp2_with fail
  go_ret
  exact ⟨rfl, HB15.out⟩
end Go.Proofs.Ytnechkhgceeejaa

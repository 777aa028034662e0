/- The document's machine: Copy. -/
import Derived.Test.YthmmbldhbdnfpaaGreatDoorRefP
import Derived.Test.YthmmbldhbdnfpaaGreatDoorAppRd
import Derived.Deep.CutRange
import Derived.Deep.RegionHeld3
import Derived.BigRegion
namespace Go.Proofs.YthmmbldhbdnfpaaGreatDoor
open Go.RowKit
set_option linter.unusedVariables false
set_option linter.unusedSimpArgs false

variable {w w' : World} {base b : Nat} {own own' : Nat → Nat} {mm : MM} {xs : List RX} {mv tv ev : Value}

theorem chg_of_grown {k : Nat} (h : w.grownBy w' (some k)) : Chg (fun g => g = k) w w' := Chg.grown (S := fun g => g = k) (Chg.refl _ w) h (fun g e => .inl (by simpa using e.symm))
theorem own_lit {k : Nat} {e : TypeId} {size : Nat} (h : w.heap[k]? = some (.cells #[] e (0, 0))) : w.ownsRow k e size (.slice (some ⟨k, 0, none⟩) 0 0) 0 [] :=
  own_of_full (by simpa using h) (Nat.le_refl _) (by unfold maxLen; omega) (by simp)
/-- append of whatever reads so to an empty literal, as one step of a region that draws -/
theorem step_append_lit {P : Program} {ops : Array Oper} {o : Oper} {a : Act} {w : World} {K : Act → World → Prop} {Q : Exit → Act → World → Prop} {E : Prop}
    (hg : o.guard = none) (s x : Operand) (t : TypeId) (hop : o.op = Op.call { callee := Callee.builtin Builtin.append, args := #[s, x], argTypes := #[t, t] })
    (e : TypeId) (i : TypeInfo) (z : Value) (size bytes : Nat) (ht : P.underlying t = some (.slice e)) (hi : P.info? e = some i) (hz : i.zero = some z)
    (hsize : i.size = size) (hby : i.bytes = bytes) (hzs : z.cells.size = size) (hsz : 0 < size)
    (k : Nat) (hs : a.eval s = .slice (some ⟨k, 0, none⟩) 0 0) (hk : w.heap[k]? = some (.cells #[] e (0, 0)))
    (xv : Value) (m : Nat) (news : List Value) (hx : a.eval x = xv) (hrd : Rd w size xv m news) (h1 : ∀ u ∈ news, u.oneCell' = true)
    (h63 : m ≤ maxLen) (hbytes : m * bytes ≤ 140737488355328)
    (hK : ∀ ao cp w', w'.ownsRow k e size (.slice ao m cp) m news → (∀ g, (Value.slice ao m cp).ownBlock = some g → g = k ∨ w.heap.size ≤ g) → Chg (fun g => g = k) w w' → K (a.put o.dst (.slice ao m cp)) w') :
    if Region.wanted o (yielded ops a.tmps) = true then Oper.wp P o a w K Q else E :=
  step_append_rd hg s x t hop k e i z size bytes ht hi hz hsize hby hzs hsz _ 0 [] hs (own_lit hk) xv m news hx hrd h1 (by simpa using h63) (by simpa using hbytes) (Nat.le_of_lt (lt_of_block hk)) (fun ao cp w' r1 r2 r3 => by
    rw [Nat.zero_add] at r1 r2 ⊢
    rw [List.nil_append] at r1
    exact hK ao cp w' r1 (fun g hg => (r2 g hg).imp (fun e => by simp [Value.ownBlock] at e; exact e.symm) id) (chg_of_grown r3))

/-- two appends to literals, one behind the other -/
theorem two_rows {w W0 w5 W1 w6 : World} {k1 k2 n1 n2 s1 s2 : Nat} {T1 T2 : TypeId} {v1 v2 : Value} {cs1 cs2 : List Value} (hb0 : Below w.heap.size w W0) (ho1 : w5.ownsRow k1 T1 s1 v1 n1 cs1) (hf1 : ∀ g, v1.ownBlock = some g → g = k1 ∨ W0.heap.size ≤ g) (hg1 : Chg (fun g => g = k1) W0 w5)
    (hb1 : Below w5.heap.size w5 W1) (ho2 : w6.ownsRow k2 T2 s2 v2 n2 cs2) (hf2 : ∀ g, v2.ownBlock = some g → g = k2 ∨ W1.heap.size ≤ g) (hg2 : Chg (fun g => g = k2) W1 w6) (h1 : w.heap.size ≤ k1 ∧ k1 < W0.heap.size) (h2 : w.heap.size ≤ k2) (h3 : k1 ≠ k2) (h4 : k2 < W0.heap.size ∨ w5.heap.size ≤ k2) :
    w6.ownsRow w.heap.size T1 s1 v1 n1 cs1 ∧ w6.ownsRow w.heap.size T2 s2 v2 n2 cs2 ∧ Below w.heap.size w w6 ∧ ∀ g, v2.ownBlock = some g → v1.ownBlock ≠ some g := by
  have z1 := hg1.size
  have z2 := hb1.size
  have hne : ∀ g, v1.ownBlock = some g → g ≠ k2 ∧ g < w5.heap.size := fun g hg => by
    have hl := (rowLt ho1 hg).2
    rcases hf1 g hg with e | e <;> omega
  refine ⟨ownsRow_mono (ownRow_keep ho1 fun g hg hl => (hg2.block g (by omega) (hne g hg).1).trans (hb1.block g hl)) h1.1, ownsRow_mono ho2 h2, ?_, fun g hg e => ?_⟩
  · have a1 := Chg.below hb0 hb0.size hg1 (fun k hk => by have hk' : k = k1 := hk; omega)
    have a2 := a1.trans (hb1.mono a1.size)
    exact Chg.below a2 a2.size hg2 (fun k hk => by have hk' : k = k2 := hk; omega)
  · have := hne g e
    rcases hf2 g hg with q | q <;> omega

theorem one_R (x : RX) {a1 a2 a3 : Option Addr} {n1 n2 n3 c1 c2 c3 : Nat} (h1 : x.cv = .slice a1 n1 c1) (h2 : x.wv = .slice a2 n2 c2) (h3 : x.ov = .slice a3 n3 c3) : ∀ u ∈ encR x, u.oneCell' = true := by
  intro u hu
  simp [encR, h1, h2, h3] at hu
  rcases hu with rfl | rfl | rfl | rfl | rfl | rfl | rfl | rfl | rfl | rfl | rfl | rfl | rfl <;> rfl
theorem bdn (w : World) (o : Obj) : Below w.heap.size w (w.alloc o).drew := ((Below.refl _ _).alloc (Nat.le_refl _) _).drew
theorem bdn2 (w : World) (o o' : Obj) : Below w.heap.size w ((w.alloc o).drew.alloc o') := (bdn w o).alloc (bdn w o).size _
theorem bk1 (w : World) (o : Obj) : (w.alloc o).drew.heap[w.heap.size]? = some o := block_new w o
theorem bk2 (w : World) (o o' : Obj) : ((w.alloc o).drew.alloc o').heap[w.heap.size]? = some o := block_alloc (bk1 w o)
theorem bk3 (w : World) (o o' : Obj) : ((w.alloc o).drew.alloc o').heap[w.heap.size + 1]? = some o' := by
  have := block_new (w.alloc o).drew o'
  rwa [show (w.alloc o).drew.heap.size = w.heap.size + 1 from World.size_alloc _ _] at this
theorem one_encI (l : List Int) : ∀ u ∈ l.flatMap encI, u.oneCell' = true := by
  intro u hu
  obtain ⟨x, _, hx⟩ := List.mem_flatMap.1 hu
  simp [encI] at hx
  subst hx
  rfl
theorem one_encEv (l : List Ev) : ∀ u ∈ l.flatMap encEv, u.oneCell' = true := by
  intro u hu
  obtain ⟨x, _, hx⟩ := List.mem_flatMap.1 hu
  simp [encEv] at hx
  rcases hx with rfl | rfl | rfl | rfl <;> rfl
theorem one_encCellR (l : List (Int × Int)) : ∀ u ∈ l.flatMap encCell, u.oneCell' = true := by
  intro u hu
  obtain ⟨x, _, hx⟩ := List.mem_flatMap.1 hu
  simp [encCell] at hx
  rcases hx with rfl | rfl <;> rfl
theorem cpI : (Tryz.prog.info? 2).map (fun i => (i.zero, i.size, i.bytes)) = some (some (.int .i64 0), 1, 8) := by kernel_rfl
theorem cpE : (Tryz.prog.info? 154).map (fun i => (i.zero, i.size, i.bytes)) = some (some (.agg #[.int .i64 0, .int .u8 0, .int .i64 0, .int .i64 0]), 4, 32) := by kernel_rfl
theorem cpC : (Tryz.prog.info? 105).map (fun i => (i.zero, i.size, i.bytes)) = some (some (.agg #[.int .i64 0, .int .i64 0]), 2, 16) := by kernel_rfl

/-- the copy before its first thread -/
theorem copy_start {w wf : World} {base : Nat} {mem : List Int} {evs : List Ev} {v1 v2 : Value} (hw : base ≤ w.heap.size) (h1 : wf.ownsRow w.heap.size 2 1 v1 mem.length (mem.flatMap encI)) (h2 : wf.ownsRow w.heap.size 154 4 v2 evs.length (evs.flatMap encEv))
    (h3 : Below w.heap.size w wf) (h4 : ∀ g, v2.ownBlock = some g → v1.ownBlock ≠ some g) :
    RAt (wf.alloc (.cells #[v1, .slice none 0 0, v2] 115)) base wf.heap.size (ownC wf.heap.size v1 v2) ⟨mem, [], evs⟩ [] v1 (.slice none 0 0) v2 ∧ (∀ k, k < w.heap.size → ownC wf.heap.size v1 v2 k = 0) ∧ Below w.heap.size w (wf.alloc (.cells #[v1, .slice none 0 0, v2] 115)) := by
  have hs := h3.size
  have hb : Below wf.heap.size wf (wf.alloc (.cells #[v1, .slice none 0 0, v2] 115)) := (Below.refl _ _).alloc (Nat.le_refl _) _
  refine ⟨RAt.start2 (block_new wf _) (by omega) (ownsRow_mono (ownRow_keep h1 fun g _ hl => hb.block g hl) hw) (ownsRow_mono (ownRow_keep h2 fun g _ hl => hb.block g hl) hw) (fun g hg => by have := (rowLt h1 hg).2; omega) (fun g hg => ⟨by have := (rowLt h2 hg).2; omega, h4 g hg⟩), fun k hk => ?_, h3.alloc hs _⟩
  unfold ownC
  rw [if_neg (by omega), if_neg (fun e => by have := (rowLt h1 e).1; omega), if_neg (fun e => by have := (rowLt h2 e).1; omega)]

def RCopyPost (base : Nat) (own : Nat → Nat) (mm : MM) (w : World) (e : Ending) (w' : World) : Prop :=
  ∃ b' own' ys mv tv ev, e = .returned (.pointer (some ⟨b', 0, none⟩)) ∧ RAt w' base b' own' mm ys mv tv ev ∧ (∀ k, k < w.heap.size → own' k = 0) ∧ Below w.heap.size w w'

set_option maxRecDepth 100000 in
set_option maxHeartbeats 4000000 in
theorem rcopy_any (h : RAt w base b own mm xs mv tv ev) (hk : MOk 1000000000 mm) :
    Calls Tryz.prog 18 #[.pointer (some ⟨b, 0, none⟩)] w (RCopyPost base own mm w) := by
  obtain ⟨mo, mc, rfl⟩ := ownsRow_shape h.mem
  obtain ⟨tto, tc, rfl⟩ := ownsRow_shape h.ths
  obtain ⟨eo, ec, rfl⟩ := ownsRow_shape h.evs
  have c0 := h.wcell 0 _ rfl
  have c1 := h.wcell 1 _ rfl
  have c2 := h.wcell 2 _ rfl
  have hbw := h.lt
  have HBW := hidI hbw
  have H := hidI h
  have HK := hidI hk
  obtain ⟨iI, hI, hI0, hI1, hI2⟩ := info_parts cpI
  obtain ⟨iE, hE, hE0, hE1, hE2⟩ := info_parts cpE
  clear h hk
  go_enter Tryz.func18, Tryz.ntmps18
  go_wp2_with fail
  go_cut [3] from 6 to 19 (fun v wx => ∃ q v1 v2, v = .pointer (some ⟨q, 0, none⟩) ∧ Hid (RAt wx base q (ownC q v1 v2) ⟨mm.mem, [], mm.evs⟩ [] v1 (.slice none 0 0) v2 ∧ (∀ k, k < w.heap.size → ownC q v1 v2 k = 0) ∧ Below w.heap.size w wx))
  case first =>
    go_region_held3 (fun W => W.cell? ⟨b, 0, none⟩ = some (.slice mo mm.mem.length mc) ∧ W.cell? ⟨b, 2, none⟩ = some (.slice eo mm.evs.length ec)) (refine ⟨?_, ?_⟩ <;> first | assumption | (simp only [World.cell?_drew]; assumption) | exact cell_allocU (by first | assumption | (simp only [World.cell?_drew]; assumption) | exact cell_allocU (by first | assumption | (simp only [World.cell?_drew]; assumption)) _) _) (first | (refine step_append_lit (by rfl) (.tmp 6) (.tmp 10) 100 (by rfl) 2 iI _ 1 8 Tryz.underlying100 hI hI0 hI1 hI2 rfl (by decide) w.heap.size (by simp [Act.eval]) (by first | exact block_new _ _ | exact chgblk HG2.out (by first | exact bk1 _ _ | exact bk2 _ _ _ | exact bk3 _ _ _) (by omega)) (.slice mo mm.mem.length mc) mm.mem.length (mm.mem.flatMap encI) (by simp [Act.eval]) (Rd.below (Rd.of_own H.out.mem) (by first | exact HW2.out | exact HW2.out.alloc HW2.out.size _)) (one_encI _) (by have := HK.out.mem.2; unfold maxLen; omega) (by have := HK.out.mem.2; omega) ?_; intro ao1 cp1 w5 h1 h2 h3; have h4 := two_rows (w := w) (by first | exact bdn _ _ | exact bdn2 _ _ _) HO2.out HF2.out HG2.out (by first | exact Below.refl _ _ | exact (Below.refl _ _).alloc (Nat.le_refl _) _) h1 h2 h3 (by first | exact ⟨Nat.le_refl _, lt_of_block (by first | exact bk1 _ _ | exact bk2 _ _ _ | exact bk3 _ _ _)⟩ | exact ⟨by omega, lt_of_block (by first | exact bk1 _ _ | exact bk2 _ _ _ | exact bk3 _ _ _)⟩) (by first | omega | exact HW2.out.size) (by first | omega | (have := Nat.lt_of_lt_of_le (lt_of_block (bk1 w (.cells #[] 2))) HG2.out.size; omega) | (have := Nat.lt_of_lt_of_le (lt_of_block (bk1 w (.cells #[] 154))) HG2.out.size; omega) | (have := Nat.lt_of_lt_of_le (lt_of_block (bk3 w (.cells #[] 2) (.cells #[] 154))) HG2.out.size; omega) | (have := Nat.lt_of_lt_of_le (lt_of_block (bk3 w (.cells #[] 154) (.cells #[] 2))) HG2.out.size; omega)) (by first | exact .inl (lt_of_block (by first | exact bk1 _ _ | exact bk2 _ _ _ | exact bk3 _ _ _)) | exact .inr (Nat.le_refl _)); have HR21 := hidI h4; have q0 := (h4.2.2.1.cell HBW.out).trans c0; have q2 := (h4.2.2.1.cell HBW.out).trans c2; clear h1 h2 h3 h4; dsimp only) | (refine step_append_lit (by rfl) (.tmp 6) (.tmp 10) 100 (by rfl) 2 iI _ 1 8 Tryz.underlying100 hI hI0 hI1 hI2 rfl (by decide) (w.heap.size + 1) (by simp [Act.eval]) (by first | exact block_new _ _ | exact chgblk HG2.out (by first | exact bk1 _ _ | exact bk2 _ _ _ | exact bk3 _ _ _) (by omega)) (.slice mo mm.mem.length mc) mm.mem.length (mm.mem.flatMap encI) (by simp [Act.eval]) (Rd.below (Rd.of_own H.out.mem) (by first | exact HW2.out | exact HW2.out.alloc HW2.out.size _)) (one_encI _) (by have := HK.out.mem.2; unfold maxLen; omega) (by have := HK.out.mem.2; omega) ?_; intro ao1 cp1 w5 h1 h2 h3; have h4 := two_rows (w := w) (by first | exact bdn _ _ | exact bdn2 _ _ _) HO2.out HF2.out HG2.out (by first | exact Below.refl _ _ | exact (Below.refl _ _).alloc (Nat.le_refl _) _) h1 h2 h3 (by first | exact ⟨Nat.le_refl _, lt_of_block (by first | exact bk1 _ _ | exact bk2 _ _ _ | exact bk3 _ _ _)⟩ | exact ⟨by omega, lt_of_block (by first | exact bk1 _ _ | exact bk2 _ _ _ | exact bk3 _ _ _)⟩) (by first | omega | exact HW2.out.size) (by first | omega | (have := Nat.lt_of_lt_of_le (lt_of_block (bk1 w (.cells #[] 2))) HG2.out.size; omega) | (have := Nat.lt_of_lt_of_le (lt_of_block (bk1 w (.cells #[] 154))) HG2.out.size; omega) | (have := Nat.lt_of_lt_of_le (lt_of_block (bk3 w (.cells #[] 2) (.cells #[] 154))) HG2.out.size; omega) | (have := Nat.lt_of_lt_of_le (lt_of_block (bk3 w (.cells #[] 154) (.cells #[] 2))) HG2.out.size; omega)) (by first | exact .inl (lt_of_block (by first | exact bk1 _ _ | exact bk2 _ _ _ | exact bk3 _ _ _)) | exact .inr (Nat.le_refl _)); have HR21 := hidI h4; have q0 := (h4.2.2.1.cell HBW.out).trans c0; have q2 := (h4.2.2.1.cell HBW.out).trans c2; clear h1 h2 h3 h4; dsimp only) | (refine step_append_lit (by rfl) (.tmp 6) (.tmp 10) 100 (by rfl) 2 iI _ 1 8 Tryz.underlying100 hI hI0 hI1 hI2 rfl (by decide) w6.heap.size (by simp [Act.eval]) (by first | exact block_new _ _ | exact chgblk HG2.out (by first | exact bk1 _ _ | exact bk2 _ _ _ | exact bk3 _ _ _) (by omega)) (.slice mo mm.mem.length mc) mm.mem.length (mm.mem.flatMap encI) (by simp [Act.eval]) (Rd.below (Rd.of_own H.out.mem) (by first | exact HW2.out | exact HW2.out.alloc HW2.out.size _)) (one_encI _) (by have := HK.out.mem.2; unfold maxLen; omega) (by have := HK.out.mem.2; omega) ?_; intro ao1 cp1 w5 h1 h2 h3; have h4 := two_rows (w := w) (by first | exact bdn _ _ | exact bdn2 _ _ _) HO2.out HF2.out HG2.out (by first | exact Below.refl _ _ | exact (Below.refl _ _).alloc (Nat.le_refl _) _) h1 h2 h3 (by first | exact ⟨Nat.le_refl _, lt_of_block (by first | exact bk1 _ _ | exact bk2 _ _ _ | exact bk3 _ _ _)⟩ | exact ⟨by omega, lt_of_block (by first | exact bk1 _ _ | exact bk2 _ _ _ | exact bk3 _ _ _)⟩) (by first | omega | exact HW2.out.size) (by first | omega | (have := Nat.lt_of_lt_of_le (lt_of_block (bk1 w (.cells #[] 2))) HG2.out.size; omega) | (have := Nat.lt_of_lt_of_le (lt_of_block (bk1 w (.cells #[] 154))) HG2.out.size; omega) | (have := Nat.lt_of_lt_of_le (lt_of_block (bk3 w (.cells #[] 2) (.cells #[] 154))) HG2.out.size; omega) | (have := Nat.lt_of_lt_of_le (lt_of_block (bk3 w (.cells #[] 154) (.cells #[] 2))) HG2.out.size; omega)) (by first | exact .inl (lt_of_block (by first | exact bk1 _ _ | exact bk2 _ _ _ | exact bk3 _ _ _)) | exact .inr (Nat.le_refl _)); have HR21 := hidI h4; have q0 := (h4.2.2.1.cell HBW.out).trans c0; have q2 := (h4.2.2.1.cell HBW.out).trans c2; clear h1 h2 h3 h4; dsimp only) | (refine step_append_lit (by rfl) (.tmp 12) (.tmp 16) 58 (by rfl) 154 iE _ 4 32 Tryz.underlying58 hE hE0 hE1 hE2 rfl (by decide) w.heap.size (by simp [Act.eval]) (by first | exact block_new _ _ | exact chgblk HG1.out (by first | exact bk1 _ _ | exact bk2 _ _ _ | exact bk3 _ _ _) (by omega)) (.slice eo mm.evs.length ec) mm.evs.length (mm.evs.flatMap encEv) (by simp [Act.eval]) (Rd.below (Rd.of_own H.out.evs) (by first | exact HW1.out | exact HW1.out.alloc HW1.out.size _)) (one_encEv _) (by have := HK.out.evs; unfold maxLen; omega) (by have := HK.out.evs; omega) ?_; intro ao2 cp2 w6 h1 h2 h3; have h4 := two_rows (w := w) (by first | exact bdn _ _ | exact bdn2 _ _ _) HO1.out HF1.out HG1.out (by first | exact Below.refl _ _ | exact (Below.refl _ _).alloc (Nat.le_refl _) _) h1 h2 h3 (by first | exact ⟨Nat.le_refl _, lt_of_block (by first | exact bk1 _ _ | exact bk2 _ _ _ | exact bk3 _ _ _)⟩ | exact ⟨by omega, lt_of_block (by first | exact bk1 _ _ | exact bk2 _ _ _ | exact bk3 _ _ _)⟩) (by first | omega | exact HW1.out.size) (by first | omega | (have := Nat.lt_of_lt_of_le (lt_of_block (bk1 w (.cells #[] 2))) HG1.out.size; omega) | (have := Nat.lt_of_lt_of_le (lt_of_block (bk1 w (.cells #[] 154))) HG1.out.size; omega) | (have := Nat.lt_of_lt_of_le (lt_of_block (bk3 w (.cells #[] 2) (.cells #[] 154))) HG1.out.size; omega) | (have := Nat.lt_of_lt_of_le (lt_of_block (bk3 w (.cells #[] 154) (.cells #[] 2))) HG1.out.size; omega)) (by first | exact .inl (lt_of_block (by first | exact bk1 _ _ | exact bk2 _ _ _ | exact bk3 _ _ _)) | exact .inr (Nat.le_refl _)); have HR12 := hidI h4; have q0 := (h4.2.2.1.cell HBW.out).trans c0; have q2 := (h4.2.2.1.cell HBW.out).trans c2; clear h1 h2 h3 h4; dsimp only) | (refine step_append_lit (by rfl) (.tmp 12) (.tmp 16) 58 (by rfl) 154 iE _ 4 32 Tryz.underlying58 hE hE0 hE1 hE2 rfl (by decide) (w.heap.size + 1) (by simp [Act.eval]) (by first | exact block_new _ _ | exact chgblk HG1.out (by first | exact bk1 _ _ | exact bk2 _ _ _ | exact bk3 _ _ _) (by omega)) (.slice eo mm.evs.length ec) mm.evs.length (mm.evs.flatMap encEv) (by simp [Act.eval]) (Rd.below (Rd.of_own H.out.evs) (by first | exact HW1.out | exact HW1.out.alloc HW1.out.size _)) (one_encEv _) (by have := HK.out.evs; unfold maxLen; omega) (by have := HK.out.evs; omega) ?_; intro ao2 cp2 w6 h1 h2 h3; have h4 := two_rows (w := w) (by first | exact bdn _ _ | exact bdn2 _ _ _) HO1.out HF1.out HG1.out (by first | exact Below.refl _ _ | exact (Below.refl _ _).alloc (Nat.le_refl _) _) h1 h2 h3 (by first | exact ⟨Nat.le_refl _, lt_of_block (by first | exact bk1 _ _ | exact bk2 _ _ _ | exact bk3 _ _ _)⟩ | exact ⟨by omega, lt_of_block (by first | exact bk1 _ _ | exact bk2 _ _ _ | exact bk3 _ _ _)⟩) (by first | omega | exact HW1.out.size) (by first | omega | (have := Nat.lt_of_lt_of_le (lt_of_block (bk1 w (.cells #[] 2))) HG1.out.size; omega) | (have := Nat.lt_of_lt_of_le (lt_of_block (bk1 w (.cells #[] 154))) HG1.out.size; omega) | (have := Nat.lt_of_lt_of_le (lt_of_block (bk3 w (.cells #[] 2) (.cells #[] 154))) HG1.out.size; omega) | (have := Nat.lt_of_lt_of_le (lt_of_block (bk3 w (.cells #[] 154) (.cells #[] 2))) HG1.out.size; omega)) (by first | exact .inl (lt_of_block (by first | exact bk1 _ _ | exact bk2 _ _ _ | exact bk3 _ _ _)) | exact .inr (Nat.le_refl _)); have HR12 := hidI h4; have q0 := (h4.2.2.1.cell HBW.out).trans c0; have q2 := (h4.2.2.1.cell HBW.out).trans c2; clear h1 h2 h3 h4; dsimp only) | (refine step_append_lit (by rfl) (.tmp 12) (.tmp 16) 58 (by rfl) 154 iE _ 4 32 Tryz.underlying58 hE hE0 hE1 hE2 rfl (by decide) w5.heap.size (by simp [Act.eval]) (by first | exact block_new _ _ | exact chgblk HG1.out (by first | exact bk1 _ _ | exact bk2 _ _ _ | exact bk3 _ _ _) (by omega)) (.slice eo mm.evs.length ec) mm.evs.length (mm.evs.flatMap encEv) (by simp [Act.eval]) (Rd.below (Rd.of_own H.out.evs) (by first | exact HW1.out | exact HW1.out.alloc HW1.out.size _)) (one_encEv _) (by have := HK.out.evs; unfold maxLen; omega) (by have := HK.out.evs; omega) ?_; intro ao2 cp2 w6 h1 h2 h3; have h4 := two_rows (w := w) (by first | exact bdn _ _ | exact bdn2 _ _ _) HO1.out HF1.out HG1.out (by first | exact Below.refl _ _ | exact (Below.refl _ _).alloc (Nat.le_refl _) _) h1 h2 h3 (by first | exact ⟨Nat.le_refl _, lt_of_block (by first | exact bk1 _ _ | exact bk2 _ _ _ | exact bk3 _ _ _)⟩ | exact ⟨by omega, lt_of_block (by first | exact bk1 _ _ | exact bk2 _ _ _ | exact bk3 _ _ _)⟩) (by first | omega | exact HW1.out.size) (by first | omega | (have := Nat.lt_of_lt_of_le (lt_of_block (bk1 w (.cells #[] 2))) HG1.out.size; omega) | (have := Nat.lt_of_lt_of_le (lt_of_block (bk1 w (.cells #[] 154))) HG1.out.size; omega) | (have := Nat.lt_of_lt_of_le (lt_of_block (bk3 w (.cells #[] 2) (.cells #[] 154))) HG1.out.size; omega) | (have := Nat.lt_of_lt_of_le (lt_of_block (bk3 w (.cells #[] 154) (.cells #[] 2))) HG1.out.size; omega)) (by first | exact .inl (lt_of_block (by first | exact bk1 _ _ | exact bk2 _ _ _ | exact bk3 _ _ _)) | exact .inr (Nat.le_refl _)); have HR12 := hidI h4; have q0 := (h4.2.2.1.cell HBW.out).trans c0; have q2 := (h4.2.2.1.cell HBW.out).trans c2; clear h1 h2 h3 h4; dsimp only) | (refine step_append_lit (by rfl) (.tmp 6) (.tmp 10) 100 (by rfl) 2 iI _ 1 8 Tryz.underlying100 hI hI0 hI1 hI2 rfl (by decide) w.heap.size (by simp [Act.eval]) (by first | exact bk1 _ _ | exact bk2 _ _ _ | exact bk3 _ _ _) (.slice mo mm.mem.length mc) mm.mem.length (mm.mem.flatMap encI) (by simp [Act.eval]) (Rd.below (Rd.of_own H.out.mem) (by first | exact bdn _ _ | exact bdn2 _ _ _)) (one_encI _) (by have := HK.out.mem.2; unfold maxLen; omega) (by have := HK.out.mem.2; omega) ?_; intro ao1 cp1 w5 h1 h2 h3; have hw1 : Below w.heap.size w w5 := Chg.below (b := _) (by first | exact bdn _ _ | exact bdn2 _ _ _) (by first | exact (bdn _ _).size | exact (bdn2 _ _ _).size) h3 (fun g hg => by have hg' : g = w.heap.size := hg; omega); have q0 := (hw1.cell HBW.out).trans c0; have q2 := (hw1.cell HBW.out).trans c2; have HW1 := hidI hw1; have HO1 := hidI h1; have HF1 := hidI h2; have HG1 := hidI h3; have HK1 : Hid (∃ k, k = w.heap.size) := hidI ⟨_, rfl⟩; clear h1 h2 h3 hw1; dsimp only) | (refine step_append_lit (by rfl) (.tmp 6) (.tmp 10) 100 (by rfl) 2 iI _ 1 8 Tryz.underlying100 hI hI0 hI1 hI2 rfl (by decide) (w.heap.size + 1) (by simp [Act.eval]) (by first | exact bk1 _ _ | exact bk2 _ _ _ | exact bk3 _ _ _) (.slice mo mm.mem.length mc) mm.mem.length (mm.mem.flatMap encI) (by simp [Act.eval]) (Rd.below (Rd.of_own H.out.mem) (by first | exact bdn _ _ | exact bdn2 _ _ _)) (one_encI _) (by have := HK.out.mem.2; unfold maxLen; omega) (by have := HK.out.mem.2; omega) ?_; intro ao1 cp1 w5 h1 h2 h3; have hw1 : Below w.heap.size w w5 := Chg.below (b := _) (by first | exact bdn _ _ | exact bdn2 _ _ _) (by first | exact (bdn _ _).size | exact (bdn2 _ _ _).size) h3 (fun g hg => by have hg' : g = (w.heap.size + 1) := hg; omega); have q0 := (hw1.cell HBW.out).trans c0; have q2 := (hw1.cell HBW.out).trans c2; have HW1 := hidI hw1; have HO1 := hidI h1; have HF1 := hidI h2; have HG1 := hidI h3; have HK1 : Hid (∃ k, k = (w.heap.size + 1)) := hidI ⟨_, rfl⟩; clear h1 h2 h3 hw1; dsimp only) | (refine step_append_lit (by rfl) (.tmp 12) (.tmp 16) 58 (by rfl) 154 iE _ 4 32 Tryz.underlying58 hE hE0 hE1 hE2 rfl (by decide) w.heap.size (by simp [Act.eval]) (by first | exact bk1 _ _ | exact bk2 _ _ _ | exact bk3 _ _ _) (.slice eo mm.evs.length ec) mm.evs.length (mm.evs.flatMap encEv) (by simp [Act.eval]) (Rd.below (Rd.of_own H.out.evs) (by first | exact bdn _ _ | exact bdn2 _ _ _)) (one_encEv _) (by have := HK.out.evs; unfold maxLen; omega) (by have := HK.out.evs; omega) ?_; intro ao2 cp2 w6 h1 h2 h3; have hw2 : Below w.heap.size w w6 := Chg.below (b := _) (by first | exact bdn _ _ | exact bdn2 _ _ _) (by first | exact (bdn _ _).size | exact (bdn2 _ _ _).size) h3 (fun g hg => by have hg' : g = w.heap.size := hg; omega); have q0 := (hw2.cell HBW.out).trans c0; have q2 := (hw2.cell HBW.out).trans c2; have HW2 := hidI hw2; have HO2 := hidI h1; have HF2 := hidI h2; have HG2 := hidI h3; have HK2 : Hid (∃ k, k = w.heap.size) := hidI ⟨_, rfl⟩; clear h1 h2 h3 hw2; dsimp only) | (refine step_append_lit (by rfl) (.tmp 12) (.tmp 16) 58 (by rfl) 154 iE _ 4 32 Tryz.underlying58 hE hE0 hE1 hE2 rfl (by decide) (w.heap.size + 1) (by simp [Act.eval]) (by first | exact bk1 _ _ | exact bk2 _ _ _ | exact bk3 _ _ _) (.slice eo mm.evs.length ec) mm.evs.length (mm.evs.flatMap encEv) (by simp [Act.eval]) (Rd.below (Rd.of_own H.out.evs) (by first | exact bdn _ _ | exact bdn2 _ _ _)) (one_encEv _) (by have := HK.out.evs; unfold maxLen; omega) (by have := HK.out.evs; omega) ?_; intro ao2 cp2 w6 h1 h2 h3; have hw2 : Below w.heap.size w w6 := Chg.below (b := _) (by first | exact bdn _ _ | exact bdn2 _ _ _) (by first | exact (bdn _ _).size | exact (bdn2 _ _ _).size) h3 (fun g hg => by have hg' : g = (w.heap.size + 1) := hg; omega); have q0 := (hw2.cell HBW.out).trans c0; have q2 := (hw2.cell HBW.out).trans c2; have HW2 := hidI hw2; have HO2 := hidI h1; have HF2 := hidI h2; have HG2 := hidI h3; have HK2 : Hid (∃ k, k = (w.heap.size + 1)) := hidI ⟨_, rfl⟩; clear h1 h2 h3 hw2; dsimp only))
    all_goals (go_wp2_with fail)
    all_goals go_meet
    all_goals (
      first
      | exact ⟨_, _, _, rfl, hidI (copy_start H.out.base_le HR12.out.1 HR12.out.2.1 HR12.out.2.2.1 HR12.out.2.2.2)⟩
      | exact ⟨_, _, _, rfl, hidI (copy_start H.out.base_le HR21.out.2.1 HR21.out.1 HR21.out.2.2.1 (fun g hg e => HR21.out.2.2.2 g e hg))⟩)
  case rest =>
  obtain ⟨q, v1, v2, rfl, HQ⟩ := hcut
  clear hI hI0 hI1 hI2 hE hE0 hE1 hE2 c0 c2 c1
  go_wp2_with fail
  go_loopw [4] (fun i w' => ∃ k : Nat, k ≤ xs.length ∧ i = .int .i64 (k : Int) ∧ Hid (∃ own' ys tv, RAt w' base q own' ⟨mm.mem, (xs.take k).map RX.th, mm.evs⟩ ys v1 tv v2 ∧ ys.length = k ∧ (∀ j, j < w.heap.size → own' j = 0)) ∧ Hid (Below w.heap.size w w')) (fun i _ => ((xs.length : Int) - intOf i).toNat)
  case atStart => exact ⟨0, by omega, rfl, hidI ⟨_, [], _, HQ.out.1, rfl, HQ.out.2.1⟩, hidI HQ.out.2.2⟩
  case round =>
    obtain ⟨k, hk, rfl, HR, HW⟩ := hrel
    have b1 := (H.out.below HW.out).wcell 1 _ rfl
    by_cases hlt : k < xs.length
    · obtain ⟨x, hx⟩ := some_at hlt
      have hm := H.out.below HW.out
      obtain ⟨tb, cap, e1, -⟩ := hm.tslice hx
      simp only [Value.slice.injEq, true_and] at e1
      obtain ⟨rfl, rfl⟩ := e1
      have t0 := hm.cell hx 0 _ rfl
      rw [Nat.add_zero] at t0
      have t1 := hm.cell hx 1 _ rfl
      have t2 := hm.cell hx 2 _ rfl
      have t3 := hm.cell hx 3 _ rfl
      have t4 := hm.cell hx 4 _ rfl
      have t5 := hm.cell hx 5 _ rfl
      have t6 := hm.cell hx 6 _ rfl
      have t7 := hm.cell hx 7 _ rfl
      have t8 := hm.cell hx 8 _ rfl
      have t9 := hm.cell hx 9 _ rfl
      have t10 := hm.cell hx 10 _ rfl
      have t11 := hm.cell hx 11 _ rfl
      have t12 := hm.cell hx 12 _ rfl
      have hxt := hm.th k x hx
      obtain ⟨ca, cc, hcv⟩ := hxt.code.shape
      obtain ⟨wa, wc, hwv⟩ := hxt.wait.shape
      obtain ⟨oa, oc, hov⟩ := ownsRow_shape hxt.out
      have HCV := hidI hcv
      have HWV := hidI hwv
      have HOV := hidI hov
      rw [hcv] at t0
      rw [hwv] at t10
      rw [hov] at t11
      have hout : RdT encI wr 1 (.slice oa x.th.out.length oc) x.th.out := by have h9 := Rd.of_own hxt.out; rw [hov] at h9; exact h9
      have hwait : RdT encCell wr 2 (.slice wa x.th.wait.length wc) x.th.wait := by have h9 := hxt.wait.rd; rw [hwv] at h9; exact h9
      have hcode : RdT encOp wr 6 (.slice ca x.th.code.length cc) x.th.code := by have h9 := hxt.code; rw [hcv] at h9; exact h9
      have HOUT := hidI hout
      have HWAIT := hidI hwait
      have HCODE := hidI hcode
      have HCT := hidI hxt.codeT
      have HTK := hidI (HK.out.th x.th (List.mem_of_getElem? (H.out.th_at hx)))
      have HX := hidI hx
      obtain ⟨iC, hC, hC0, hC1, hC2⟩ := info_parts cpC
      obtain ⟨iI, hI, hI0, hI1, hI2⟩ := info_parts cpI
      clear hm hxt hcv hwv hov hout hwait hcode hx
      go_wp2_with (at_builtin; refine wpList_append_rd _ rfl _ _ 23 rfl (wr.heap.size + 1) 105 iC _ 2 16 Tryz.underlying23 hC hC0 hC1 hC2 rfl (by decide) (.slice (some ⟨wr.heap.size + 1, 0, none⟩) 0 0) 0 [] (by simp [Act.eval]) ?o1 (.slice wa x.th.wait.length wc) x.th.wait.length (x.th.wait.flatMap encCell) (by simp [Act.eval]) ?r1 (one_encCellR _) ?a1 ?a2 ?a3 ?_)
      case o1 => exact own_lit (block_new2 wr _ _)
      case r1 => exact Rd.below HWAIT.out (((Below.refl _ _).alloc (Nat.le_refl _) _).alloc (by simp) _)
      case a1 => have := HTK.out.full; unfold maxLen; omega
      case a2 => have := HTK.out.full; omega
      case a3 => simp
      intro ao1 cp1 w2 r1 r2 r3
      try simp only [Nat.zero_add, List.nil_append] at r1 r2
      have hc2 : Chg (fun g => g = wr.heap.size + 1) ((wr.alloc (.cells (encR ⟨x.th, .slice ca x.th.code.length cc, .slice wa x.th.wait.length wc, .slice oa x.th.out.length oc⟩).toArray 117)).alloc (.cells #[] 105)) w2 := chg_of_grown r3
      have hbx2 := chgblk hc2 (block_alloc (block_new wr (.cells (encR ⟨x.th, .slice ca x.th.code.length cc, .slice wa x.th.wait.length wc, .slice oa x.th.out.length oc⟩).toArray 117))) (by simp)
      have hb2 : Below wr.heap.size wr w2 := Chg.below (((Below.refl wr.heap.size wr).alloc (Nat.le_refl _) _).alloc (by simp) _) (by simp; omega) hc2 (fun g hg => by have hg' : g = wr.heap.size + 1 := hg; omega)
      have hr2 : ∀ g, (Value.slice ao1 x.th.wait.length cp1).ownBlock = some g → wr.heap.size < g := fun g hg => by
        rcases r2 g hg with e | e
        · first | omega | (simp [Value.ownBlock] at e; omega)
        · first | omega | (simp at e; omega)
      have z10 : w2.cell? ⟨wr.heap.size, 10, none⟩ = some (.slice wa x.th.wait.length wc) := cell_of_block hbx2 rfl
      have f10 := free_of_block (o := 10) hbx2
      have HB2 := hidI hb2
      have HR1 := hidI r1
      have HRN := hidI hr2
      have HBX2 := hidI hbx2
      clear t0 t1 t2 t3 t4 t5 t6 t7 t8 t9 t10 t11 t12 r1 r2 r3 hc2 hbx2 hb2 hr2 hC hC0 hC1 hC2
      go_upto_region 7 with fail
      have hset := block_setCell (o := 10) (.slice ao1 x.th.wait.length cp1) HBX2.out
      have hne : ∀ g, wr.heap.size < g → (w2.setCell ⟨wr.heap.size, 10, none⟩ (.slice ao1 x.th.wait.length cp1)).heap[g]? = w2.heap[g]? := fun g hg => Below.heap_setCell _ _ _ _ (by simp only; omega)
      have HBX3 : Hid ((w2.setCell ⟨wr.heap.size, 10, none⟩ (.slice ao1 x.th.wait.length cp1)).heap[wr.heap.size]? = some (.cells (encR ⟨x.th, .slice ca x.th.code.length cc, .slice ao1 x.th.wait.length cp1, .slice oa x.th.out.length oc⟩).toArray 117 (0, 0))) := hidI hset
      have HR3 := hidI (ownRow_keep HR1.out fun g hg _ => hne g (HRN.out g hg))
      have HB3 := hidI (HB2.out.setCell (Nat.le_refl _) (p := ⟨wr.heap.size, 10, none⟩) (.slice ao1 x.th.wait.length cp1))
      clear hset hne HBX2 HR1 HB2 z10 f10
      generalize w2.setCell ⟨wr.heap.size, 10, none⟩ (.slice ao1 x.th.wait.length cp1) = w3 at HBX3 HR3 HB3 ⊢
      have z11 : w3.cell? ⟨wr.heap.size, 11, none⟩ = some (.slice oa x.th.out.length oc) := cell_of_block HBX3.out rfl
      have hl3 : wr.heap.size < w3.heap.size := lt_of_block HBX3.out
      go_wp2_with (at_builtin; refine wpList_append_rd _ rfl _ _ 100 rfl w3.heap.size 2 iI _ 1 8 Tryz.underlying100 hI hI0 hI1 hI2 rfl (by decide) (.slice (some ⟨w3.heap.size, 0, none⟩) 0 0) 0 [] (by simp [Act.eval]) ?o1 (.slice oa x.th.out.length oc) x.th.out.length (x.th.out.flatMap encI) (by simp [Act.eval]) ?r1 (one_encI _) ?a1 ?a2 ?a3 ?_)
      case o1 => exact own_lit (block_new w3 _)
      case r1 => exact Rd.below (Rd.below HOUT.out HB3.out) ((Below.refl _ _).alloc (Nat.le_refl _) _)
      case a1 => have := HTK.out.out; unfold maxLen; omega
      case a2 => have := HTK.out.out; omega
      case a3 => simp
      intro ao2 cp2 w4 r1 r2 r3
      try simp only [Nat.zero_add, List.nil_append] at r1 r2
      have hc4 : Chg (fun g => g = w3.heap.size) (w3.alloc (.cells #[] 2)) w4 := chg_of_grown r3
      have hb34 : Below w3.heap.size w3 w4 := Chg.below ((Below.refl _ _).alloc (Nat.le_refl _) _) (by simp) hc4 (fun g hg => by have hg' : g = w3.heap.size := hg; omega)
      have hbx4 := blk hb34 HBX3.out
      have hr2 : ∀ g, (Value.slice ao2 x.th.out.length cp2).ownBlock = some g → w3.heap.size ≤ g := fun g hg => by
        rcases r2 g hg with e | e
        · first | omega | (simp [Value.ownBlock] at e; omega)
        · first | omega | (simp at e; omega)
      have z11 : w4.cell? ⟨wr.heap.size, 11, none⟩ = some (.slice oa x.th.out.length oc) := cell_of_block hbx4 rfl
      have f11 := free_of_block (o := 11) hbx4
      have HB34 := hidI hb34
      have HBX4 := hidI hbx4
      have HO4 := hidI r1
      have HON := hidI hr2
      have HR4 := hidI (ownRow_keep HR3.out fun g _ hl => hb34.block g hl)
      have HRL := hidI (show ∀ g, (Value.slice ao1 x.th.wait.length cp1).ownBlock = some g → g < w3.heap.size from fun g hg => (rowLt HR3.out hg).2)
      have HB4 := hidI (bnext HB3.out hb34)
      clear r1 r2 r3 hc4 hb34 hbx4 hr2 hI hI0 hI1 hI2 z11 HR3 HBX3
      have z11 : w4.cell? ⟨wr.heap.size, 11, none⟩ = some (.slice oa x.th.out.length oc) := cell_of_block HBX4.out rfl
      go_upto_region 8 with fail
      have hset := block_setCell (o := 11) (.slice ao2 x.th.out.length cp2) HBX4.out
      have hne : ∀ g, wr.heap.size < g → (w4.setCell ⟨wr.heap.size, 11, none⟩ (.slice ao2 x.th.out.length cp2)).heap[g]? = w4.heap[g]? := fun g hg => Below.heap_setCell _ _ _ _ (by simp only; omega)
      have HBX5 : Hid ((w4.setCell ⟨wr.heap.size, 11, none⟩ (.slice ao2 x.th.out.length cp2)).heap[wr.heap.size]? = some (.cells (encR ⟨x.th, .slice ca x.th.code.length cc, .slice ao1 x.th.wait.length cp1, .slice ao2 x.th.out.length cp2⟩).toArray 117 (0, 0))) := hidI hset
      have HR5 := hidI (ownRow_keep HR4.out fun g hg _ => hne g (HRN.out g hg))
      have HO5 := hidI (ownRow_keep HO4.out fun g hg _ => hne g (by have := HON.out g hg; omega))
      have HB5 := hidI (HB4.out.setCell (Nat.le_refl _) (p := ⟨wr.heap.size, 11, none⟩) (.slice ao2 x.th.out.length cp2))
      clear hset hne HBX4 HR4 HO4 HB4 HB34 z11 f11
      generalize w4.setCell ⟨wr.heap.size, 11, none⟩ (.slice ao2 x.th.out.length cp2) = w5 at HBX5 HR5 HO5 HB5 ⊢
      obtain ⟨own1, ys, tv, hq, hyl, hol⟩ := HR.out
      subst hyl
      obtain ⟨yo, yc, rfl⟩ := ownsRow_shape hq.ths
      have hq5 := hq.below HB5.out
      have c1 := hq5.wcell 1 _ rfl
      have f1 := hq5.wfree 1
      have hql : q < w5.heap.size := hq5.lt
      have h4 : ys.length ≤ 4 := by have := H.out.same; have h9 := HK.out.four; rw [this, List.length_map] at h9; omega
      have s0 : w5.cell? ⟨wr.heap.size, 0, none⟩ = some (.slice ca x.th.code.length cc) := cell_of_block HBX5.out rfl
      have s1 : w5.cell? ⟨wr.heap.size, 1, none⟩ = some (.int .i64 (x.th.reg 0)) := cell_of_block HBX5.out rfl
      have s2 : w5.cell? ⟨wr.heap.size, 2, none⟩ = some (.int .i64 (x.th.reg 1)) := cell_of_block HBX5.out rfl
      have s3 : w5.cell? ⟨wr.heap.size, 3, none⟩ = some (.int .i64 (x.th.reg 2)) := cell_of_block HBX5.out rfl
      have s4 : w5.cell? ⟨wr.heap.size, 4, none⟩ = some (.int .i64 (x.th.reg 3)) := cell_of_block HBX5.out rfl
      have s5 : w5.cell? ⟨wr.heap.size, 5, none⟩ = some (.int .i64 (x.th.reg 4)) := cell_of_block HBX5.out rfl
      have s6 : w5.cell? ⟨wr.heap.size, 6, none⟩ = some (.int .i64 (x.th.reg 5)) := cell_of_block HBX5.out rfl
      have s7 : w5.cell? ⟨wr.heap.size, 7, none⟩ = some (.int .i64 (x.th.reg 6)) := cell_of_block HBX5.out rfl
      have s8 : w5.cell? ⟨wr.heap.size, 8, none⟩ = some (.int .i64 (x.th.reg 7)) := cell_of_block HBX5.out rfl
      have s9 : w5.cell? ⟨wr.heap.size, 9, none⟩ = some (.int .i64 x.th.at_) := cell_of_block HBX5.out rfl
      have s10 : w5.cell? ⟨wr.heap.size, 10, none⟩ = some (.slice ao1 x.th.wait.length cp1) := cell_of_block HBX5.out rfl
      have s11 : w5.cell? ⟨wr.heap.size, 11, none⟩ = some (.slice ao2 x.th.out.length cp2) := cell_of_block HBX5.out rfl
      have s12 : w5.cell? ⟨wr.heap.size, 12, none⟩ = some (.int .u8 x.th.fin) := cell_of_block HBX5.out rfl
      have hl5 : wr.heap.size < w5.heap.size := lt_of_block HBX5.out
      obtain ⟨i0, hi, hz0, hz1, hz2⟩ := info_parts thInfoR
      have HQR := hidI hq
      have HQ5 := hidI hq5
      have HOL := hidI hol
      clear hq hq5 hol HR
      go_wp2_with fail
      go_region_law (first | (refine step_append_d (by rfl) (.tmp 50) (.tmp 52) 113 (by rfl) base 117 i0 _ 13 152 Tryz.underlying113 hi hz0 hz1 hz2 rfl (by decide) (.slice yo ys.length yc) ys.length (ys.flatMap encR) (by simp [Act.eval]) (by exact ownsRow_chg HQ5.out.ths (((Chg.refl (fun _ => False) w5).alloc _).drew) (fun _ _ => id)) ⟨w5.heap.size, 0, none⟩ 1 1 (by decide) (encR ⟨x.th, .slice ca x.th.code.length cc, .slice ao1 x.th.wait.length cp1, .slice ao2 x.th.out.length cp2⟩) (by simp [Act.eval]) rfl (by exact news_at (block_new w5 _)) (one_R ⟨x.th, .slice ca x.th.code.length cc, .slice ao1 x.th.wait.length cp1, .slice ao2 x.th.out.length cp2⟩ rfl rfl rfl) (by unfold maxLen; omega) (by omega) (by show base ≤ (w5.alloc _).heap.size; have := HQ5.out.base_le; rw [World.size_alloc]; omega) ?_; intro ao9 cp9 w9 h1 h2 h3; have hg0 : Chg (fun k => (Value.slice yo ys.length yc).ownBlock = some k) w5 w9 := Chg.grown (S := fun k => (Value.slice yo ys.length yc).ownBlock = some k) (((Chg.refl _ w5).alloc _).drew) h3 (fun k hk => .inl hk); have hbt : w9.heap[q]? = w5.heap[q]? := hg0.block q hql (fun e => by have h7 := HQ5.out.thsT _ e; rw [HQ5.out.bT.2] at h7; omega); have e1 : w9.cell? ⟨q, 1, none⟩ = some (.slice yo ys.length yc) := (World.cell?_of_block hbt).trans c1; have e2 : w9.frozen? ⟨q, 1, none⟩ = false := (by have f12 := f1; unfold World.frozen? at f12 ⊢; rw [hbt]; exact f12); have HG0 := hidI hg0; have HR9 := hidI h1; have HFR := hidI h2; clear h1 h2 h3 hg0 hbt))
      all_goals (
        have hgt := Chg.then_ (S := fun k => (Value.slice yo ys.length yc).ownBlock = some k) (Chg.of_below HB5.out) HG0.out (fun k _ hk => hk)
        have hlt9 : ∀ g, g < w5.heap.size → (Value.slice yo ys.length yc).ownBlock ≠ some g → w9.heap[g]? = w5.heap[g]? := fun g hg hn => HG0.out.block g hg hn
        have hyold : ∀ g, (Value.slice yo ys.length yc).ownBlock = some g → g < wr.heap.size := fun g hg => (rowLt HQR.out.ths hg).2
        have hpush := HQR.out.push2 hgt (y := ⟨x.th, .slice ca x.th.code.length cc, .slice ao1 x.th.wait.length cp1, .slice ao2 x.th.out.length cp2⟩) (tv' := .slice ao9 (ys.length + 1) cp9)
          (RdT.keepN (l := x.th.code) (Rd.below HCODE.out HB5.out) fun g hn hg hl => hlt9 g hl (fun e => by
            have h1 := HCT.out g hn (by rw [HCV.out]; exact hg)
            have h2 := (rowLt HQR.out.ths e).1
            omega))
          (fun g hn hg => HCT.out g hn (by rw [HCV.out]; exact hg))
          (CutRow.of_own (ownsRow_mono (ownRow_keep HR5.out fun g hg hl => hlt9 g hl (fun e => by have h1 := HRN.out g hg; have h2 := hyold g e; omega)) (by have := HQR.out.base_le; omega)))
          (fun g hg => Nat.le_of_lt (HRN.out g hg))
          (ownsRow_mono (ownRow_keep HO5.out fun g hg hl => hlt9 g hl (fun e => by have h1 := HON.out g hg; have h2 := hyold g e; omega)) (by have := HQR.out.base_le; omega))
          (fun g hg => ⟨by have := HON.out g hg; omega, fun e => by have h1 := HON.out g hg; have h2 := HRL.out g e; omega⟩)
          (by rw [flat_snoc]; exact HR9.out)
          (fun g hg => by
            rcases HFR.out g hg with e | e
            · exact .inl e
            · have e' : (w5.alloc _).heap.size ≤ g := e
              rw [World.size_alloc] at e'
              exact .inr ⟨by omega, fun e3 => by have := (rowLt HR5.out e3).2; omega, fun e3 => by have := (rowLt HO5.out e3).2; omega⟩)
        have HPU := hidI hpush
        have hb9 : Below w.heap.size w w9 := Chg.below (HW.out.trans (HB5.out.mono HW.out.size)) (HW.out.trans (HB5.out.mono HW.out.size)).size HG0.out (fun k hk => by
          have h7 := HQR.out.thsT k hk
          exact Classical.byContradiction fun hc => by rw [HOL.out k (by omega)] at h7; omega)
        have HB9 := hidI hb9
        clear hgt hlt9 hyold hpush hb9 s0 s1 s2 s3 s4 s5 s6 s7 s8 s9 s10 s11 s12 c1 f1 hi hz0 hz1 hz2 b1
        go_wp2_with fail
        refine ⟨⟨ys.length + 1, by omega, by go_num, hidI ⟨own3 own1 wr.heap.size (.slice ao9 (ys.length + 1) cp9) (.slice ao1 x.th.wait.length cp1) (.slice ao2 x.th.out.length cp2) ys.length, ys ++ [⟨x.th, .slice ca x.th.code.length cc, .slice ao1 x.th.wait.length cp1, .slice ao2 x.th.out.length cp2⟩], .slice ao9 (ys.length + 1) cp9, ?_, by simp, fun j hj => ?_⟩, hidI (HB9.out.setCell (p := ⟨q, 1, none⟩) (Classical.byContradiction fun hc => by have h7 := HQR.out.bT.2; rw [HOL.out q (by simp only at hc; omega)] at h7; omega) _)⟩, by simp [intOf]; omega⟩
        · have e : (xs.take (ys.length + 1)).map RX.th = (xs.take ys.length).map RX.th ++ [x.th] := by
            rw [take_snoc HX.out, List.map_append]; rfl
          rw [e]
          exact HPU.out
        · rw [own3_old (by have := HW.out.size; omega)]
          exact HOL.out j hj)
    · obtain rfl : k = xs.length := by omega
      obtain ⟨own1, ys, tv, hq, hyl, hol⟩ := HR.out
      rw [List.take_length, ← H.out.same] at hq
      go_wp2_with fail
      go_ret
      exact ⟨q, own1, ys, v1, tv, v2, rfl, hq, hol, HW.out⟩
end Go.Proofs.YthmmbldhbdnfpaaGreatDoor

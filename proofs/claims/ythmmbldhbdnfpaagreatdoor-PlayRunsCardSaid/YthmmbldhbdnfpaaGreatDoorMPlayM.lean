/- Put together by merge.py out of XTsoEl.lean.tpl, XPlayF.lean.tpl, XPlayM.lean.tpl. -/
import Derived.Test.YthmmbldhbdnfpaaGreatDoorMTsoA
import Derived.Test.YthmmbldhbdnfpaaGreatDoorMBase
import Derived.ProofKit
import Derived.Lib.SmallJoins
import Derived.Test.YthmmbldhbdnfpaaGreatDoorMTsoN
import Derived.Test.YthmmbldhbdnfpaaGreatDoorMPlayL
import Derived.Test.YthmmbldhbdnfpaaGreatDoorMPlayA
namespace Go.Proofs.YthmmbldhbdnfpaaGreatDoor
open Go.RowKit
set_option linter.unusedVariables false
set_option linter.unusedSimpArgs false

section
theorem wf8T {n : Int} (h : (Lit.int .u8 n).wf = true) : 0 ≤ n ∧ n < 256 := by
  simp [Lit.wf] at h
  have e1 : IntKind.u8.min = 0 := by decide
  have e2 : IntKind.u8.max = 255 := by decide
  omega
def in64 (z : Int) : Prop := -9223372036854775808 ≤ z ∧ z ≤ 9223372036854775807
theorem wide_elem {H : Type} {enc : TypeId × Value → H} {w : World} {held : Bool} (fuel : Nat) (cs : List Value) (x : DataW H × List MemPlace) (h : DataW.trod enc Tryz.prog w 0 (fun _ => true) held fuel 2 cs = some x) : ∃ a, cs = encI a ∧ in64 a := by
  obtain ⟨a, ha, -, wa⟩ := DataW.trod_int Tryz.underlying2 h
  exact ⟨a, ha, wf_i64 wa⟩
set_option maxRecDepth 100000 in
theorem cellT_elem {H : Type} {enc : TypeId × Value → H} {w : World} {held : Bool} (fuel : Nat) (cs : List Value) (x : DataW H × List MemPlace) (h : DataW.trod enc Tryz.prog w 0 (fun _ => true) held fuel 105 cs = some x) : ∃ a, cs = encCell a ∧ (in64 a.1 ∧ in64 a.2) := by
  obtain ⟨y0, y1, n, hx, hl, h0, h1⟩ := Go.ChangeShapes.trod_struct2 Tryz.underlying105 h
  obtain ⟨a, ha, -, wa⟩ := DataW.trod_int Tryz.underlying3 h0
  obtain ⟨b, hb, -, wb⟩ := DataW.trod_int Tryz.underlying2 h1
  rw [show Tryz.prog.cellsOf 105 = 2 from by kernel_rfl] at hl
  rw [show Tryz.prog.cellsOf 3 = 1 from by kernel_rfl] at ha
  rw [show Tryz.prog.cellsOf 2 = 1 from by kernel_rfl] at hb
  match cs, hl with
  | [c0, c1], _ =>
    simp at ha hb
    exact ⟨(a, b), by simp [encCell, ha, hb], wf_i64 wa, wf_i64 wb⟩
set_option maxRecDepth 100000 in
theorem opT_elem {H : Type} {enc : TypeId × Value → H} {w : World} {held : Bool} (fuel : Nat) (cs : List Value) (x : DataW H × List MemPlace) (h : DataW.trod enc Tryz.prog w 0 (fun _ => true) held fuel 44 cs = some x) : ∃ a, cs = encOp a ∧ wfOp a := by
  obtain ⟨xs, n, _, rfl, hl, hlen, hf⟩ := DataW.trod_struct Tryz.underlying44 h
  rw [show Tryz.prog.cellsOf 44 = 6 from by kernel_rfl] at hl
  match xs, hlen with
  | [y0, y1, y2, y3, y4, y5], _ =>
  have e1 : Tryz.prog.cellsOf 41 = 1 := by kernel_rfl
  have e2 : Tryz.prog.cellsOf 42 = 1 := by kernel_rfl
  have e3 : Tryz.prog.cellsOf 5 = 1 := by kernel_rfl
  have e4 : Tryz.prog.cellsOf 2 = 1 := by kernel_rfl
  obtain ⟨v0, h0, -, w0⟩ := DataW.trod_int Tryz.underlying41 (hf 0 _ rfl)
  obtain ⟨v1, h1, -, w1⟩ := DataW.trod_int Tryz.underlying42 (hf 1 _ rfl)
  obtain ⟨v2, h2, -, w2⟩ := DataW.trod_int Tryz.underlying5 (hf 2 _ rfl)
  obtain ⟨v3, h3, -, w3⟩ := DataW.trod_int Tryz.underlying5 (hf 3 _ rfl)
  obtain ⟨v4, h4, -, w4⟩ := DataW.trod_int Tryz.underlying5 (hf 4 _ rfl)
  obtain ⟨v5, h5, -, w5⟩ := DataW.trod_int Tryz.underlying2 (hf 5 _ rfl)
  match cs, hl with
  | [c0, c1, c2, c3, c4, c5], _ =>
    simp [e1] at h0
    simp [e2] at h1
    simp [e3] at h2 h3 h4
    simp [e4] at h5
    exact ⟨⟨v0, v1, v2, v3, v4, v5⟩, by simp [encOp, h0, h1, h2, h3, h4, h5], wf8T w0, wf8T w1, wf8T w2, wf8T w3, wf8T w4, wf_i64 w5⟩
/-- numbers as Ints has them -/
theorem ints_of {w : World} {ao : Option Addr} {cap : Nat} {l : List Int} (h : RdT encI w 1 (.slice ao l.length cap) l) : Ints w (.slice ao l.length cap) l := by
  have h0 := h
  obtain ⟨h1, ao', cap', e, h2, h3⟩ := h
  simp only [Value.slice.injEq, true_and] at e
  obtain ⟨rfl, rfl⟩ := e
  refine ⟨ao, cap, rfl, h2, fun i hi => ?_⟩
  obtain ⟨b, off, rfl, hb, hc⟩ := RdT.at encI_len h0 (List.getElem?_eq_getElem hi)
  refine ⟨b, off, rfl, hb, ?_⟩
  have := hc 0 _ rfl
  rw [Nat.mul_one, Nat.add_zero] at this
  rw [this]
  simp [nth, List.getD, hi]
end

section
variable {w w' : World}

set_option maxHeartbeats 1000000 in
theorem counted_any (w : World) (z : Int) (hz : -9223372036854775808 ≤ z ∧ z ≤ 262144) :
    Calls Tryz.prog 29 #[.int .i64 z] w fun e w' => e = .returned (.int .i64 (if z < 0 then 262145 else 262144 - z)) ∧ Below w.heap.size w w' := by
  obtain ⟨h1, h2⟩ := hz
  go_enter Tryz.func29, Tryz.ntmps29
  go_wp2_with fail
  all_goals (go_ret; exact ⟨rfl, Below.refl _ _⟩)

set_option maxRecDepth 100000 in
set_option maxHeartbeats 1000000 in
theorem imageSize_any {ca cca : Option Addr} {ccap ccca : Nat} {l : List (Value × List OpD)} {cs : List (Int × Int)} (h : CodeAt w (.slice ca l.length ccap) l) (mem : Int) (hl : l.length ≤ 9223372036854775807) (hcl : cs.length ≤ 9223372036854775807) (hol : ∀ p ∈ l, p.2.length ≤ 9223372036854775807) :
    Calls Tryz.prog 6 #[.agg #[.slice ca l.length ccap, .int .i64 mem, .slice cca cs.length ccca]] w fun e w' => ∃ z : Int, e = .returned (.int .i64 z) ∧ (0 ≤ z ∧ z ≤ 262145) ∧ (z ≤ 262144 → cs.length ≤ 262144 ∧ l.length ≤ 262144) ∧ Below w.heap.size w w' := by
  have H := hidI h
  have HOL := hidI hol
  have hb0 : Below w.heap.size w (w.alloc (.cells #[.slice ca l.length ccap, .int .i64 mem, .slice cca cs.length ccca] 25)) := (Below.refl _ _).alloc (Nat.le_refl _) _
  have H0 := hidI (h.below hb0)
  have HB0 := hidI hb0
  clear h hol hb0
  go_enter Tryz.func6, Tryz.ntmps6
  go_wp2_with fail
  have hbox := block_new w (.cells #[.slice ca l.length ccap, .int .i64 mem, .slice cca cs.length ccca] 25)
  obtain ⟨w0, hw0⟩ : ∃ w0, w0 = w.alloc (.cells #[.slice ca l.length ccap, .int .i64 mem, .slice cca cs.length ccca] 25) := ⟨_, rfl⟩
  rw [← hw0] at hbox H0 HB0 ⊢
  have HBX := hidI hbox
  clear hw0 hbox
  go_loopw [3, 4] (fun v i w' => ∃ (k : Nat) (z : Int), k ≤ l.length ∧ i = .int .i64 (k : Int) ∧ v = .int .i64 z ∧ -9223372036854775808 ≤ z ∧ z ≤ 262144 - cs.length - k ∧ ∃ n, w' = w0.drewN n) (fun v i _ => ((l.length : Int) - intOf i).toNat)
  case atStart => exact ⟨0, 262144 - cs.length, by omega, rfl, rfl, by omega, by omega, 0, rfl⟩
  case round =>
    obtain ⟨k, z, hk, rfl, rfl, hz1, hz2, n, rfl⟩ := hrel
    have q0 : w0.cell? ⟨w.heap.size, 0, none⟩ = some (.slice ca l.length ccap) := cell_of_block HBX.out rfl
    by_cases hlt : k < l.length
    · by_cases hz0 : z < 0
      · go_wp2_with fail
        refine (counted_any _ z ⟨hz1, by omega⟩).mono ?_
        rintro e w1 ⟨rfl, hb⟩
        have HB := hidI (below_drewN HB0.out n |>.trans (hb.mono HB0.out.size))
        clear hb
        rw [if_pos hz0]
        go_wp2_with fail
        go_ret
        exact ⟨262145, rfl, by omega, by omega, HB.out⟩
      · have hz3 : z ≥ 0 := by omega
        obtain ⟨p, hp⟩ := some_at hlt
        have hol := HOL.out p (List.mem_of_getElem? hp)
        obtain ⟨gb, co, rfl, hgb, hcc⟩ := RdT.at encC_len H0.out.rows hp
        have i0 := hcc 0 _ rfl
        obtain ⟨ao, cap, hcv⟩ := (H0.out.each p (List.mem_of_getElem? hp)).shape
        rw [Nat.mul_one, Nat.add_zero, hcv] at i0
        clear hcc hcv hp
        go_wp2_with fail
        exact ⟨⟨k + 1, _, by omega, by go_num, rfl, by omega, by omega, n, rfl⟩, by simp [intOf]; omega⟩
    · obtain rfl : k = l.length := by omega
      go_wp2_with fail
      refine (counted_any _ z ⟨hz1, by omega⟩).mono ?_
      rintro e w1 ⟨rfl, hb⟩
      have HB := hidI (below_drewN HB0.out n |>.trans (hb.mono HB0.out.size))
      clear hb
      by_cases hz0 : z < 0
      · rw [if_pos hz0]
        go_wp2_with fail
        go_ret
        exact ⟨262145, rfl, by omega, by omega, HB.out⟩
      · rw [if_neg hz0]
        go_wp2_with fail
        go_ret
        exact ⟨262144 - z, rfl, by omega, by omega, HB.out⟩

/-- Beyond of two sizes -/
theorem beyond2 {b : Nat} {t : TypeId} {y z : Int} (hb : w.heap[b]? = some (.cells #[.int .i64 y, .int .i64 z] t (0, 0))) (hy : 0 ≤ y ∧ y ≤ 9223372036854775807) (hz : 0 ≤ z ∧ z ≤ 9223372036854775807) :
    Calls Tryz.prog 5 #[.slice (some ⟨b, 0, none⟩) 2 2] w fun e w' => ∃ r, e = .returned (.bool r) ∧ (r = false → y ≤ 262144 ∧ z ≤ 262144) ∧ Below w.heap.size w w' := by
  have x0 : w.cell? ⟨b, 0, none⟩ = some (.int .i64 y) := cell_of_block hb rfl
  have x1 : w.cell? ⟨b, 1, none⟩ = some (.int .i64 z) := cell_of_block hb rfl
  obtain ⟨hy0, hy1⟩ := hy
  obtain ⟨hz0, hz1⟩ := hz
  clear hb
  by_cases h1 : y > 262144
  · have hn0 : ¬ y < 0 := by omega
    go_enter Tryz.func5, Tryz.ntmps5
    go_wp2_with fail
    go_loopw [4, 3] (fun i acc wr => wr = w ∧ i = .int .i64 0 ∧ acc = .int .i64 0) (fun i _ _ => (2 - intOf i).toNat)
    case atStart => exact ⟨rfl, rfl, rfl⟩
    case round =>
      obtain ⟨rfl, rfl, rfl⟩ := hrel
      go_wp2
      go_ret
      exact ⟨true, rfl, by simp, Below.refl _ _⟩
  · have hn0 : ¬ y < 0 := by omega
    by_cases h2 : z > 262144
    · have hn1 : ¬ z < 0 := by omega
      go_enter Tryz.func5, Tryz.ntmps5
      go_wp2_with fail
      go_loopw [4, 3] (fun i acc wr => wr = w ∧ (i = .int .i64 0 ∧ acc = .int .i64 0 ∨ i = .int .i64 1 ∧ acc = .int .i64 y)) (fun i _ _ => (2 - intOf i).toNat)
      case atStart => exact ⟨rfl, .inl ⟨rfl, rfl⟩⟩
      case round =>
        obtain ⟨rfl, ⟨rfl, rfl⟩ | ⟨rfl, rfl⟩⟩ := hrel
        · go_wp2
          exact ⟨⟨trivial, .inr ⟨rfl, rfl⟩⟩, by simp [intOf]⟩
        · go_wp2
          go_ret
          exact ⟨true, rfl, by simp, Below.refl _ _⟩
    · have hn1 : ¬ z < 0 := by omega
      by_cases h3 : y + z > 262144
      · go_enter Tryz.func5, Tryz.ntmps5
        go_wp2_with fail
        go_loopw [4, 3] (fun i acc wr => wr = w ∧ (i = .int .i64 0 ∧ acc = .int .i64 0 ∨ i = .int .i64 1 ∧ acc = .int .i64 y)) (fun i _ _ => (2 - intOf i).toNat)
        case atStart => exact ⟨rfl, .inl ⟨rfl, rfl⟩⟩
        case round =>
          obtain ⟨rfl, ⟨rfl, rfl⟩ | ⟨rfl, rfl⟩⟩ := hrel
          · go_wp2
            exact ⟨⟨trivial, .inr ⟨rfl, rfl⟩⟩, by simp [intOf]⟩
          · go_wp2
            go_ret
            exact ⟨true, rfl, by simp, Below.refl _ _⟩
      · go_enter Tryz.func5, Tryz.ntmps5
        go_wp2_with fail
        go_loopw [4, 3] (fun i acc wr => wr = w ∧ (i = .int .i64 0 ∧ acc = .int .i64 0 ∨ i = .int .i64 1 ∧ acc = .int .i64 y ∨ i = .int .i64 2 ∧ acc = .int .i64 (y + z))) (fun i _ _ => (2 - intOf i).toNat)
        case atStart => exact ⟨rfl, .inl ⟨rfl, rfl⟩⟩
        case round =>
          obtain ⟨rfl, ⟨rfl, rfl⟩ | ⟨rfl, rfl⟩ | ⟨rfl, rfl⟩⟩ := hrel
          · go_wp2
            exact ⟨⟨trivial, .inr (.inl ⟨rfl, rfl⟩)⟩, by simp [intOf]⟩
          · go_wp2
            exact ⟨⟨trivial, .inr (.inr ⟨rfl, rfl⟩)⟩, by simp [intOf]⟩
          · go_wp2
            go_ret
            exact ⟨false, rfl, fun _ => ⟨by omega, by omega⟩, Below.refl _ _⟩

/-- code that came in -/
theorem codeT_elem {H : Type} {enc : TypeId × Value → H} {w : World} {held : Bool} (fuel : Nat) (cs : List Value) (x : DataW H × List MemPlace) (h : DataW.trod enc Tryz.prog w 0 (fun _ => true) held fuel 40 cs = some x) :
    ∃ a : Value × List OpD, cs = encC a ∧ (RdT encOp w 6 a.1 a.2 ∧ (∀ o ∈ a.2, wfOp o) ∧ a.2.length ≤ 9223372036854775807) := by
  rcases Go.Deep.open_slice Tryz.underlying40 h with ⟨rfl, _⟩ | ⟨a, len, cap, m, n, D, Pl, rfl, _⟩
  · exact ⟨(.slice none 0 0, []), rfl, Rd.nil w 6, by simp, by simp⟩
  · obtain ⟨l, rfl, hr, hm, hok, -⟩ := slice_open (d := x.1) (p := x.2) (sz := 6) (e := 44) encOp_len (by decide) Tryz.underlying40 (by kernel_rfl) opT_elem ⟨fuel, by simpa [Value.cells] using h⟩
    exact ⟨(.slice (some a) l.length cap, l), rfl, hr, hok, hm⟩
theorem encC_len' : ∀ p, (encC p).length = 1 := fun _ => rfl

set_option maxRecDepth 100000 in
theorem image_open {H : Type} {enc : TypeId × Value → H} {w : World} {held : Bool} {r : Reach} {b0 : Nat} {v : Value} {d : DataW H} {p : List MemPlace} (hv : Value.okWide Tryz.prog w r b0 25 v)
    (h : DataW.Trod enc Tryz.prog w 0 (fun _ => true) held 25 v d p) :
    ∃ (ca cca : Option Addr) (ccap ccca : Nat) (l : List (Value × List OpD)) (cs : List (Int × Int)) (mem : Int), v = .agg #[.slice ca l.length ccap, .int .i64 mem, .slice cca cs.length ccca] ∧ CodeAt w (.slice ca l.length ccap) l ∧ RdT encCell w 2 (.slice cca cs.length ccca) cs ∧
      in64 mem ∧ (∀ c ∈ cs, in64 c.1 ∧ in64 c.2) ∧ l.length ≤ 9223372036854775807 ∧ cs.length ≤ 9223372036854775807 ∧ ∀ p ∈ l, p.2.length ≤ 9223372036854775807 := by
  obtain ⟨c0, c1, c2, y0, y1, y2, m0, rfl, e0, e0p, hy0, hy1, hy2⟩ := Go.Joins.open_agg3 Tryz.underlying25 (by kernel_rfl) (by kernel_rfl) hv h
  obtain ⟨mem, hmem, -, hw⟩ := DataW.trod_int Tryz.underlying3 hy1
  simp only [List.cons.injEq, and_true] at hmem
  subst hmem
  have hl : ∃ (ca : Option Addr) (ccap : Nat) (l : List (Value × List OpD)), c0 = .slice ca l.length ccap ∧ CodeAt w (.slice ca l.length ccap) l ∧ l.length ≤ 9223372036854775807 ∧ ∀ p ∈ l, p.2.length ≤ 9223372036854775807 := by
    rcases Go.Deep.open_slice Tryz.underlying22 hy0 with ⟨e, _⟩ | ⟨a, len, cap, m, n, D, Pl, e, _⟩
    · simp only [List.cons.injEq, and_true] at e
      subst e
      exact ⟨none, 0, [], rfl, ⟨Rd.nil w 1, by simp, by simp⟩, by simp, by simp⟩
    · simp only [List.cons.injEq, and_true] at e
      subst e
      obtain ⟨l, rfl, hr, hm, hok, -⟩ := slice_open (d := y0.1) (p := y0.2) (sz := 1) (e := 40) encC_len (by decide) Tryz.underlying22 (by kernel_rfl) codeT_elem ⟨m0, by simpa [Value.cells] using hy0⟩
      exact ⟨some a, cap, l, rfl, ⟨hr, fun p hp => (hok p hp).1, fun p hp => (hok p hp).2.1⟩, hm, fun p hp => (hok p hp).2.2⟩
  have hcs : ∃ (ca : Option Addr) (ccap : Nat) (l : List (Int × Int)), c2 = .slice ca l.length ccap ∧ RdT encCell w 2 (.slice ca l.length ccap) l ∧ (∀ c ∈ l, in64 c.1 ∧ in64 c.2) ∧ l.length ≤ 9223372036854775807 := by
    rcases Go.Deep.open_slice Tryz.underlying23 hy2 with ⟨e, _⟩ | ⟨a, len, cap, m, n, D, Pl, e, _⟩
    · simp only [List.cons.injEq, and_true] at e
      subst e
      exact ⟨none, 0, [], rfl, Rd.nil w 2, by simp, by simp⟩
    · simp only [List.cons.injEq, and_true] at e
      subst e
      obtain ⟨l, rfl, hr, hm, hok, -⟩ := slice_open (d := y2.1) (p := y2.2) (sz := 2) (e := 105) encCell_len (by decide) Tryz.underlying23 (by kernel_rfl) cellT_elem ⟨m0, by simpa [Value.cells] using hy2⟩
      exact ⟨some a, cap, l, rfl, hr, hok, hm⟩
  obtain ⟨ca, ccap, l, rfl, h1, h2, h3⟩ := hl
  obtain ⟨cca, ccca, cs, rfl, g1, g2, g3⟩ := hcs
  exact ⟨ca, cca, ccap, ccca, l, cs, mem, rfl, h1, g1, wf_i64 hw, g2, h2, g3, h3⟩
end

section
theorem timesS_eq (k th n m : Int) : ∀ j, timesS ⟨k, th, n⟩ j = timesS ⟨k, th, m⟩ j
  | 0 => rfl
  | j + 1 => by
    rw [timesS, timesS, timesS_eq k th n m j]
    rfl
theorem times_add (p : PickD) (i : Nat) : ∀ j, timesS p (i + j) = timesS p i ++ timesS p j
  | 0 => by simp [timesS]
  | j + 1 => by rw [Nat.add_succ, timesS, times_add p i j, timesS, List.append_assoc]
theorem times_one (p : PickD) : timesS p 1 = onceS p := by simp [timesS]
theorem acts_put (A : List PickD) (k th n : Int) : actsS (putS A k th n) = actsS A ++ timesS ⟨k, th, n⟩ n.toNat := by
  unfold putS
  split
  · rw [actsS_snoc]; rfl
  · rw [show n.toNat = 0 from by omega]; simp [timesS]
theorem total_put (A : List PickD) (k th n : Int) (h : 0 ≤ n) : total (putS A k th n) = total A + plen ⟨k, th, n⟩ := by
  unfold putS
  split
  · rw [total_snoc]
  · have : plen ⟨k, th, n⟩ = 0 := by unfold plen; simp only; split <;> omega
    omega
theorem bad_put {A : List PickD} {k th n : Int} (hA : A.any pbad = false) (hk : k ≤ 2) : (putS A k th n).any pbad = false := by
  unfold putS
  split
  · rw [List.any_append, hA]
    simp [pbad]
    omega
  · exact hA

theorem kind_put {A : List PickD} {k th n : Int} (hA : ∀ p ∈ A, 0 ≤ p.kind) (hk : 0 ≤ k) : ∀ p ∈ putS A k th n, 0 ≤ p.kind := by
  unfold putS
  split
  · intro p hp
    rcases List.mem_append.1 hp with h | h
    · exact hA p h
    · rw [List.mem_singleton.1 h]; exact hk
  · exact hA
/-- how it stands in the loop -/
structure TailInv (first : Int) (l : List PickD) (s : Int × List PickD × List PickD) : Prop where
  f : 0 ≤ s.1
  empty : 0 < s.1 → s.2.2 = []
  acts : actsS s.2.1 ++ actsS s.2.2 = actsS l
  ta : total s.2.1 + s.1 = first
  tb : total s.2.1 + total s.2.2 = total l
  ba : s.2.1.any pbad = false
  bb : s.2.2.any pbad = false
  ka : ∀ p ∈ s.2.1, 0 ≤ p.kind
  kb : ∀ p ∈ s.2.2, 0 ≤ p.kind

theorem plen_two {th n : Int} (h : n ≤ 1048576) : plen ⟨2, th, n⟩ = n * 2 := by unfold plen; simp only [if_true]; omega
theorem plen_one {k th n : Int} (hk : k ≠ 2) (h : n ≤ 1048577) : plen ⟨k, th, n⟩ = n := by unfold plen; simp only [if_neg hk]; omega

theorem tail_inv_next {first : Int} {l : List PickD} {p : PickD} {s : Int × List PickD × List PickD} (h : TailInv first l s) (hb : pbad p = false) (hn : p.n ≤ 1048576) (hk : 0 ≤ p.kind) : TailInv first (l ++ [p]) (tailNext p s) := by
  obtain ⟨f, A, B⟩ := s
  obtain ⟨h1, h2, h3, h4, h5, h6, h7, h8, h9'⟩ := h
  simp only at h1 h2 h3 h4 h5 h6 h7 h8 h9'
  have hk2 : p.kind ≤ 2 := by unfold pbad at hb; simp at hb; omega
  have hn0 : 0 ≤ p.n := by unfold pbad at hb; simp at hb; omega
  obtain ⟨k, th, n⟩ := p
  simp only at hk2 hn0 hn hk
  have hp0 := plen_ge hb
  unfold tailNext
  simp only
  generalize hh : min f (plen ⟨k, th, n⟩) = here
  have hh0 : 0 ≤ here := by omega
  have hhf : here ≤ f := by omega
  by_cases he : k = 2
  · subst he
    rw [plen_two hn] at hh hp0
    have hst : tailStep ⟨2, th, n⟩ here A B = (putS (putS A 2 th (here / 2)) 0 th (here % 2), putS (putS B 1 th (here % 2)) 2 th (n - (here + 1) / 2)) := by simp [tailStep]
    rw [hst]
    have hsplit : timesS ⟨2, th, here / 2⟩ (here / 2).toNat ++ timesS ⟨0, th, here % 2⟩ (here % 2).toNat ++ (timesS ⟨1, th, here % 2⟩ (here % 2).toNat ++ timesS ⟨2, th, n - (here + 1) / 2⟩ (n - (here + 1) / 2).toNat) = pickS ⟨2, th, n⟩ := by
      unfold pickS
      simp only
      rw [timesS_eq 2 th (here / 2) n, timesS_eq 2 th (n - (here + 1) / 2) n]
      rcases (by omega : here % 2 = 0 ∨ here % 2 = 1) with e | e
      · rw [e]
        have : n.toNat = (here / 2).toNat + (n - (here + 1) / 2).toNat := by omega
        rw [this, times_add]
        simp [timesS]
      · rw [e]
        have : n.toNat = (here / 2).toNat + 1 + (n - (here + 1) / 2).toNat := by omega
        rw [this, times_add, times_add, times_one]
        simp [timesS, onceS]
    have hpA := plen_two (th := th) (n := here / 2) (by omega)
    have hpA2 := plen_one (k := 0) (th := th) (n := here % 2) (by decide) (by omega)
    have hpB := plen_one (k := 1) (th := th) (n := here % 2) (by decide) (by omega)
    have hpB2 := plen_two (th := th) (n := n - (here + 1) / 2) (by omega)
    have htA : total (putS (putS A 2 th (here / 2)) 0 th (here % 2)) = total A + here := by
      rw [total_put _ _ _ _ (by omega), total_put _ _ _ _ (by omega), hpA, hpA2]; omega
    have htB : total (putS (putS B 1 th (here % 2)) 2 th (n - (here + 1) / 2)) = total B + (n * 2 - here) := by
      rw [total_put _ _ _ _ (by omega), total_put _ _ _ _ (by omega), hpB, hpB2]; omega
    refine ⟨by simp only; omega, fun hp => ?_, ?_, by simp only; rw [htA]; omega, by simp only; rw [htA, htB, total_snoc, plen_two hn]; omega, bad_put (bad_put h6 (by omega)) (by omega), bad_put (bad_put h7 (by omega)) (by omega), kind_put (kind_put h8 (by omega)) (by omega), kind_put (kind_put h9' (by omega)) (by omega)⟩
    · simp only at hp ⊢
      have hB := h2 (by omega)
      have h9 : here = n * 2 := by omega
      rw [hB]
      unfold putS
      rw [if_neg (by omega), if_neg (by omega)]
    · simp only
      rw [acts_put, acts_put, acts_put, acts_put, actsS_snoc, ← h3, ← hsplit]
      rcases (by omega : 0 < f ∨ f = 0) with hf | hf
      · rw [h2 hf]
        simp [actsS]
      · have h9 : here = 0 := by omega
        rw [h9]
        simp [timesS]
  · rw [plen_one he (by omega)] at hh hp0
    have hst : tailStep ⟨k, th, n⟩ here A B = (putS A k th here, putS B k th (n - here)) := by simp [tailStep, he]
    rw [hst]
    have hsplit : timesS ⟨k, th, here⟩ here.toNat ++ timesS ⟨k, th, n - here⟩ (n - here).toNat = pickS ⟨k, th, n⟩ := by
      unfold pickS
      simp only
      rw [timesS_eq k th here n, timesS_eq k th (n - here) n]
      have : n.toNat = here.toNat + (n - here).toNat := by omega
      rw [this, times_add]
    have htA : total (putS A k th here) = total A + here := by rw [total_put _ _ _ _ (by omega), plen_one he (by omega)]
    have htB : total (putS B k th (n - here)) = total B + (n - here) := by rw [total_put _ _ _ _ (by omega), plen_one he (by omega)]
    refine ⟨by simp only; omega, fun hp => ?_, ?_, by simp only; rw [htA]; omega, by simp only; rw [htA, htB, total_snoc, plen_one he (by omega)]; omega, bad_put h6 hk2, bad_put h7 hk2, kind_put h8 hk, kind_put h9' hk⟩
    · simp only at hp ⊢
      have hB := h2 (by omega)
      rw [hB]
      unfold putS
      rw [if_neg (by omega)]
    · simp only
      rw [acts_put, acts_put, actsS_snoc, ← h3, ← hsplit]
      rcases (by omega : 0 < f ∨ f = 0) with hf | hf
      · rw [h2 hf]
        simp [actsS]
      · have h9 : here = 0 := by omega
        rw [h9]
        simp [timesS]

theorem tail_inv {first : Int} (h0 : 0 ≤ first) (l : List PickD) (hb : l.any pbad = false) (hn : ∀ p ∈ l, p.n ≤ 1048576 ∧ 0 ≤ p.kind) : TailInv first l (tailSt first l) := by
  revert hb hn
  refine snoc_ind (P := fun l => l.any pbad = false → (∀ p ∈ l, p.n ≤ 1048576 ∧ 0 ≤ p.kind) → TailInv first l (tailSt first l)) (fun _ _ => ⟨h0, fun _ => rfl, rfl, by simp [tailSt, total], by simp [tailSt, total], rfl, rfl, by simp [tailSt], by simp [tailSt]⟩) (fun l p ih hb hn => ?_) l
  rw [List.any_append, Bool.or_eq_false_iff] at hb
  rw [tailSt_snoc]
  exact tail_inv_next (ih hb.1 fun q hq => hn q (by simp [hq])) (by simpa using hb.2) (hn p (by simp)).1 (hn p (by simp)).2
theorem TailInv.done {first : Int} {l : List PickD} {s : Int × List PickD × List PickD} (h : TailInv first l s) (hf : first ≤ total l) : total s.2.1 = first := by
  have h1 := h.ta
  have h2 := h.tb
  have h3 := h.f
  rcases (by omega : 0 < s.1 ∨ s.1 = 0) with e | e
  · have h4 := h.empty e
    rw [h4] at h2
    simp [total] at h2
    simp [total] at h1 hf ⊢
    omega
  · omega
theorem len_side {A : List PickD} (hb : A.any pbad = false) (ht : total A ≤ 1048576) : (lengthS A = (0, 3) ∧ 65536 < A.length) ∨ (lengthS A = (total A, 0) ∧ A.length ≤ 65536) := by
  unfold lengthS
  rcases Nat.lt_or_ge 65536 A.length with e | e
  · rw [if_pos e]; exact .inl ⟨rfl, e⟩
  · rw [if_neg (by omega), if_neg (by rw [hb]; decide), if_neg (by omega)]; exact .inr ⟨rfl, e⟩
/-- every pick of a script that may be is short -/
theorem short_of_total {l : List PickD} (hb : l.any pbad = false) (ht : total l ≤ 1048576) : ∀ p ∈ l, p.n ≤ 1048576 := by
  intro p hp
  obtain ⟨a, b, rfl⟩ := List.append_of_mem hp
  rw [List.any_append, List.any_cons, Bool.or_eq_false_iff, Bool.or_eq_false_iff] at hb
  have h1 := total_ge hb.1
  have h2 := total_ge hb.2.2
  have h3 := total_app a (p :: b)
  have h4 : total (p :: b) = plen p + total b := by simp [total]
  have h5 : plen p ≤ 1048576 := by omega
  unfold plen at h5
  split at h5 <;> omega

theorem thr_at {m : MM} {z : Int} {t : MT} (h : m.thr z = some t) : m.ths[z.toNat]? = some t := by
  unfold MM.thr at h
  split at h
  · cases h
  · exact h
/-- a machine that has gone on -/
structure Later (m m' : MM) : Prop where
  evs : m.evs <+: m'.evs
  len : m'.ths.length = m.ths.length
  out : ∀ (i : Nat) t, m.ths[i]? = some t → ∃ t', m'.ths[i]? = some t' ∧ t.out <+: t'.out
theorem Later.refl (m : MM) : Later m m := ⟨List.prefix_refl _, rfl, fun i t h => ⟨t, h, List.prefix_refl _⟩⟩
theorem Later.trans {a b c : MM} (h : Later a b) (g : Later b c) : Later a c :=
  ⟨h.evs.trans g.evs, g.len.trans h.len, fun i t ht => by
    obtain ⟨t1, h1, h2⟩ := h.out i t ht
    obtain ⟨t2, h3, h4⟩ := g.out i t1 h1
    exact ⟨t2, h3, h2.trans h4⟩⟩
theorem Later.put {m : MM} {n : Nat} {t t' : MT} (ht : m.ths[n]? = some t) (ho : t.out <+: t'.out) : Later m (m.put n t') :=
  ⟨List.prefix_refl _, by simp [MM.put], fun i u hu => by
    by_cases e : n = i
    · subst e
      rw [ht] at hu
      cases hu
      exact ⟨t', by simp [MM.put, List.getElem?_set_self (List.getElem?_eq_some_iff.1 ht).1], ho⟩
    · exact ⟨u, by simp [MM.put, List.getElem?_set_ne e, hu], List.prefix_refl _⟩⟩
theorem Later.tell {m m' : MM} (h : Later m m') (n : Nat) (k a b : Int) : Later m (m'.tell n k a b) :=
  ⟨h.evs.trans (List.prefix_append _ _), h.len, h.out⟩
theorem Later.mem {m m' : MM} (h : Later m m') (l : List Int) : Later m { m' with mem := l } := ⟨h.evs, h.len, h.out⟩
theorem Later.stop {m : MM} {n : Nat} {t : MT} (ht : m.ths[n]? = some t) (k : Int) : Later m (m.stop n t k) := (Later.put (t' := { t with fin := k }) ht (List.prefix_refl _)).tell _ _ _ _
theorem step_later (m : MM) (z : Int) : Later m (m.step z).2 := by
  refine step_cases m z (fun q => Later m q.2) (Later.refl m) (fun t ht _ => ?_) (fun t o a ht _ _ _ => ?_)
  · have h1 := thr_at ht
    exact Later.stop h1 _
  · have h1 := thr_at ht
    exact act_cases m z.toNat t o a (fun q => Later m q) (fun i v => Later.put h1 (List.prefix_refl _)) (fun k => Later.stop h1 _) (fun _ => Later.put h1 (List.prefix_refl _)) (fun _ => Later.put h1 (List.prefix_refl _)) (Later.put h1 (List.prefix_refl _))
      (fun l i v hl _ => by
        have h2 : Later m { m with mem := l } := (Later.refl m).mem l
        exact h2.trans (Later.put (m := { m with mem := l }) h1 (List.prefix_refl _))) ((Later.put (t' := { t.next with out := t.out ++ [t.r o.a] }) h1 (List.prefix_append _ _)).tell _ _ _ _) (fun k x y => (Later.put (t' := t.next) h1 (List.prefix_refl _)).tell _ _ _ _) (fun i v => (Later.put (t' := t.goes i v) h1 (List.prefix_refl _)).tell _ _ _ _) (Later.refl m)
theorem flush_later (m : MM) (z : Int) : Later m (m.flush z).2 := by
  unfold MM.flush
  split
  · exact Later.refl m
  · rename_i t ht
    have h1 := thr_at ht
    split
    · exact Later.refl m
    · rename_i c r hw
      have h2 : Later m { m with mem := m.mem.set c.1.toNat c.2 } := (Later.refl m).mem _
      exact h2.trans (Later.put (m := { m with mem := m.mem.set c.1.toNat c.2 }) h1 (List.prefix_refl _))
theorem acts_later (l : List Act1) : ∀ S : MM × Int, S.2 ≤ (doActs S l).2 ∧ Later S.1 (doActs S l).1 := by
  induction l with
  | nil => exact fun S => ⟨Int.le_refl _, Later.refl _⟩
  | cons a l ih =>
    intro S
    have h1 : S.2 ≤ (doAct S a).2 ∧ Later S.1 (doAct S a).1 := by
      cases a with
      | step z =>
        refine ⟨?_, step_later _ _⟩
        simp only [doAct]
        split <;> omega
      | flush z => exact ⟨Int.le_refl _, flush_later _ _⟩
    have h2 := ih (doAct S a)
    exact ⟨Int.le_trans h1.1 h2.1, h1.2.trans h2.2⟩


set_option maxRecDepth 100000 in
set_option maxHeartbeats 2000000 in
theorem sameTrace_true {w : World} {ao bo eo fo : Option Addr} {ca cb ce cf n m p q : Nat} {ps qs : List SX} {es : List Ev} {st : Int} (hp : SeenAt w (.slice ao n ca) ps) (hq : SeenAt w (.slice bo m cb) qs) (hn : n = ps.length) (hm : m = qs.length) (he : ps.map (fun s => (s.out, s.fin)) = qs.map (fun s => (s.out, s.fin)))
    (hl : ps.length ≤ 262144) (hd : ∀ s ∈ ps, s.out.length ≤ 2000000000) (ha : Rd w 4 (.slice eo p ce) p (es.flatMap encEv)) (hb : Rd w 4 (.slice fo q cf) q (es.flatMap encEv)) (hpe : p = es.length) (hqe : q = es.length) (hel : es.length ≤ 9223372036854775807) :
    Calls Tryz.prog 24 #[.agg #[.slice ao n ca, .slice eo p ce, .int .i64 st], .agg #[.slice bo m cb, .slice fo q cf, .int .i64 st]] w fun e w' => e = .returned (.bool true) ∧ Below w.heap.size w w' := by
  have hb0 : Below w.heap.size w ((w.alloc (.cells #[.slice ao n ca, .slice eo p ce, .int .i64 st] 60)).alloc (.cells #[.slice bo m cb, .slice fo q cf, .int .i64 st] 60)) := ((Below.refl w.heap.size w).alloc (Nat.le_refl _) _).alloc (by simp) _
  have HP := hidI (hp.below hb0)
  have HQ := hidI (hq.below hb0)
  have HA := hidI (Rd.below ha hb0)
  have HB := hidI (Rd.below hb hb0)
  have HN := hidI hn
  have HM := hidI hm
  have HE := hidI he
  have HL := hidI hl
  have HD := hidI hd
  have HPE := hidI hpe
  have HQE := hidI hqe
  have HEL := hidI hel
  have HB0 := hidI hb0
  clear hp hq ha hb hn hm he hl hd hpe hqe hel hb0
  go_enter Tryz.func24, Tryz.ntmps24
  go_wp2_with fail
  refine (sameSeens_true HP.out HQ.out HN.out HM.out HE.out HL.out HD.out).mono ?_
  rintro e w1 ⟨rfl, hb1⟩
  have k0 := blk hb1 (block_alloc (o := (.cells #[.slice bo m cb, .slice fo q cf, .int .i64 st] 60)) (block_new w (.cells #[.slice ao n ca, .slice eo p ce, .int .i64 st] 60)))
  have k1 := blk hb1 (block_new2 w (.cells #[.slice ao n ca, .slice eo p ce, .int .i64 st] 60) (.cells #[.slice bo m cb, .slice fo q cf, .int .i64 st] 60))
  have c1 : w1.cell? ⟨w.heap.size, 1, none⟩ = some (.slice eo p ce) := cell_of_block k0 rfl
  have d1 : w1.cell? ⟨w.heap.size + 1, 1, none⟩ = some (.slice fo q cf) := cell_of_block k1 rfl
  have HA1 := hidI (Rd.below HA.out hb1)
  have HB1 := hidI (Rd.below HB.out hb1)
  have HW1 := hidI (bnext HB0.out hb1)
  clear hb1 k0 k1
  go_wp2_with fail
  refine (sameEvents_eq HA1.out HB1.out HPE.out HQE.out HEL.out).mono ?_
  rintro e w2 ⟨rfl, hb2⟩
  have HW2 := hidI (bnext HW1.out hb2)
  clear hb2
  go_wp2_with fail
  go_ret
  exact ⟨rfl, HW2.out⟩

/-- append of whatever slice reads as so many elements -/
theorem wpList_append_rd {P : Program} (w : World) {ops : Array Oper} {rest : List Oper} {o : Oper} {a : Act} {Q : Exit → Act → World → Prop} (hgd : o.guard = none) (s x : Operand) (t : TypeId)
    (ho : o.op = .call { callee := .builtin .append, args := #[s, x], argTypes := #[t, t] })
    (base : Nat) (e : TypeId) (i : TypeInfo) (z : Value) (size bytes : Nat) (ht : P.underlying t = some (.slice e)) (hi : P.info? e = some i) (hz : i.zero = some z)
    (hsize : i.size = size) (hby : i.bytes = bytes) (hzs : z.cells.size = size) (hsz : 0 < size)
    (v : Value) (n : Nat) (xs : List Value) (hs : a.eval s = v) (hown : w.ownsRow base e size v n xs)
    (xv : Value) (m : Nat) (news : List Value) (hx : a.eval x = xv) (hrd : Rd w size xv m news) (h1 : ∀ u ∈ news, u.oneCell' = true)
    (h63 : n + m ≤ maxLen) (hbytes : (n + m) * bytes ≤ 140737488355328) (hbase : base ≤ w.heap.size)
    (h : ∀ ao cp w', w'.ownsRow base e size (.slice ao (n + m) cp) (n + m) (xs ++ news) → (∀ g, (Value.slice ao (n + m) cp).ownBlock = some g → v.ownBlock = some g ∨ w.heap.size ≤ g) → w.grownBy w' v.ownBlock →
      wpList P ops Q rest (a.put o.dst (.slice ao (n + m) cp)) w') : wpList P ops Q (o :: rest) a w := by
  obtain ⟨hl, xo, xc, rfl, hc, hat⟩ := hrd
  rcases Nat.eq_zero_or_pos m with rfl | hm
  · obtain rfl : news = [] := List.eq_nil_of_length_eq_zero (by simpa using hl)
    obtain ⟨ao, cp, rfl⟩ := ownsRow_shape hown
    have hncap : n ≤ cp := by
      rcases hown.2 with ⟨hv, rfl⟩ | ⟨g, cap, cur, hv, hbg, hg, hnc, _⟩
      · omega
      · simp only [Value.slice.injEq, true_and] at hv
        rw [hv.2]; exact hnc
    refine wpList_plain hgd fun K hK => ?_
    have hf : (Builtin.firstCells size 0 (.slice xo 0 xc)).run P w = .ok #[] w := by
      cases xo with
      | none => exact run_firstCells_none w size 0 0 xc
      | some ad => exact run_firstCells_some w size 0 ad 0 xc [] (by simp) (fun j v hj => by simp at hj)
    have hni : ∀ k, P.underlying t ≠ some (.int k) := fun k e => by rw [ht] at e; cases e
    have hrun : (Builtin.append_ #[t, t] o.type #[.slice ao n cp, .slice xo 0 xc]).run P w = .ok (.slice ao n cp) w := by
      simp [Builtin.append_, run_underlying ht, Builtin.lenOf, sizeOf, typeInfo, hi, hsize, hf, hncap]
      cases ao with
      | none => simp
      | some ad => simp [storeCells]
    unfold Oper.wp
    simp [execOp, ho, resolve, invoke, builtin, hs, hx, hrun, Result.andThen]
    refine hK _ _ ?_
    have := h ao cp w (by simpa using hown) (fun g hg => .inl (by simpa using hg)) ⟨rfl, rfl, rfl, Nat.le_refl _, fun _ _ _ => rfl⟩
    simpa using this
  · obtain ⟨b, off, rfl, hb, hcell⟩ := hat hm
    exact wpList_append_d w hgd s x t ho base e i z size bytes ht hi hz hsize hby hzs hsz v n xs hs hown ⟨b, off, none⟩ m xc news hx hl (fun j u hj => by rw [Go.Addr.add_mid]; exact hcell j u hj) h1 h63 hbytes hbase h

/-- append of whatever reads as so many elements, as one step of a region that draws -/
theorem step_append_rd {P : Program} {ops : Array Oper} {o : Oper} {a : Act} {w : World} {K : Act → World → Prop} {Q : Exit → Act → World → Prop} {E : Prop}
    (hg : o.guard = none) (s x : Operand) (t : TypeId) (hop : o.op = Op.call { callee := Callee.builtin Builtin.append, args := #[s, x], argTypes := #[t, t] })
    (base : Nat) (e : TypeId) (i : TypeInfo) (z : Value) (size bytes : Nat) (ht : P.underlying t = some (.slice e)) (hi : P.info? e = some i) (hz : i.zero = some z)
    (hsize : i.size = size) (hby : i.bytes = bytes) (hzs : z.cells.size = size) (hsz : 0 < size)
    (v : Value) (n : Nat) (xs : List Value) (hs : a.eval s = v) (hown : w.ownsRow base e size v n xs)
    (xv : Value) (m : Nat) (news : List Value) (hx : a.eval x = xv) (hrd : Rd w size xv m news) (h1 : ∀ u ∈ news, u.oneCell' = true)
    (h63 : n + m ≤ maxLen) (hbytes : (n + m) * bytes ≤ 140737488355328) (hbase : base ≤ w.heap.size)
    (hK : ∀ ao cp w', w'.ownsRow base e size (.slice ao (n + m) cp) (n + m) (xs ++ news) → (∀ g, (Value.slice ao (n + m) cp).ownBlock = some g → v.ownBlock = some g ∨ w.heap.size ≤ g) → w.grownBy w' v.ownBlock → K (a.put o.dst (.slice ao (n + m) cp)) w') :
    if Region.wanted o (yielded ops a.tmps) = true then Oper.wp P o a w K Q else E := by
  obtain ⟨hl, xo, xc, rfl, hc, hat⟩ := hrd
  rcases Nat.eq_zero_or_pos m with rfl | hm
  · obtain rfl : news = [] := List.eq_nil_of_length_eq_zero (by simpa using hl)
    obtain ⟨ao, cp, rfl⟩ := ownsRow_shape hown
    have hncap : n ≤ cp := by
      rcases hown.2 with ⟨hv, rfl⟩ | ⟨g, cap, cur, hv, hbg, hg, hnc, _⟩
      · omega
      · simp only [Value.slice.injEq, true_and] at hv
        rw [hv.2]; exact hnc
    have hw : Region.wanted o (yielded ops a.tmps) = true := by simp [Region.wanted, hg]
    rw [if_pos hw]
    have hf : (Builtin.firstCells size 0 (.slice xo 0 xc)).run P w = .ok #[] w := by
      cases xo with
      | none => exact run_firstCells_none w size 0 0 xc
      | some ad => exact run_firstCells_some w size 0 ad 0 xc [] (by simp) (fun j v hj => by simp at hj)
    have hni : ∀ k, P.underlying t ≠ some (.int k) := fun k e => by rw [ht] at e; cases e
    have hrun : (Builtin.append_ #[t, t] o.type #[.slice ao n cp, .slice xo 0 xc]).run P w = .ok (.slice ao n cp) w := by
      simp [Builtin.append_, run_underlying ht, Builtin.lenOf, sizeOf, typeInfo, hi, hsize, hf, hncap]
      cases ao with
      | none => simp
      | some ad => simp [storeCells]
    unfold Oper.wp
    simp [execOp, hop, resolve, invoke, builtin, hs, hx, hrun, Result.andThen]
    have h9 : K (a.put o.dst (.slice ao n cp)) w := by
      have := hK ao cp w (by simpa using hown) (fun g hg => .inl (by simpa using hg)) ⟨rfl, rfl, rfl, Nat.le_refl _, fun _ _ _ => rfl⟩
      simpa using this
    exact h9
  · obtain ⟨b, off, rfl, hb, hcell⟩ := hat hm
    exact step_append_d hg s x t hop base e i z size bytes ht hi hz hsize hby hzs hsz v n xs hs hown ⟨b, off, none⟩ m xc hm news hx hl (fun j u hj => by rw [Go.Addr.add_mid]; exact hcell j u hj) h1 h63 hbytes hbase hK

theorem own_empty (w : World) (e : TypeId) (size : Nat) : (w.alloc (.cells #[] e)).ownsRow w.heap.size e size (.slice (some ⟨w.heap.size, 0, none⟩) 0 0) 0 [] :=
  own_of_full (by rw [block_new]) (Nat.le_refl _) (by unfold maxLen; omega) (by simp)

variable {w w' : World}


/-- a trace that reads as a machine's end, its memory from base on -/
def TraceIn (S : MM × Int) (w : World) (base : Nat) (ta te : Value) (st : Int) : Prop :=
  st = S.2 ∧ ∃ (ao : Option Addr) (ls : List SX) (ac : Nat) (ve : Option Addr) (vec : Nat), ta = .slice ao ls.length ac ∧ te = .slice ve S.1.evs.length vec ∧ w.ownsRow base 131 2 ta ls.length (ls.flatMap encS) ∧ (∀ s ∈ ls, w.ownsRow base 2 1 s.v s.out.length (s.out.flatMap encI)) ∧
    ls.map (fun s => (s.out, s.fin)) = S.1.ths.map (fun t => (t.out, t.fin)) ∧ w.ownsRow base 154 4 te S.1.evs.length (S.1.evs.flatMap encEv)
theorem TraceIn.keep {S : MM × Int} {base : Nat} {ta te : Value} {st : Int} (h : TraceIn S w base ta te st) (hk : ∀ g, base ≤ g → g < w.heap.size → w'.heap[g]? = w.heap[g]?) : TraceIn S w' base ta te st := by
  obtain ⟨h1, ao, ls, ac, ve, vec, h2, h3, h4, h5, h6, h7⟩ := h
  exact ⟨h1, ao, ls, ac, ve, vec, h2, h3, ownRow_keep h4 fun g hg hl => hk g (rowLt h4 hg).1 hl, fun s hs => ownRow_keep (h5 s hs) fun g hg hl => hk g (rowLt (h5 s hs) hg).1 hl, h6, ownRow_keep h7 fun g hg hl => hk g (rowLt h7 hg).1 hl⟩
theorem TraceIn.below {S : MM × Int} {base : Nat} {ta te : Value} {st : Int} (h : TraceIn S w base ta te st) (hb : Below w.heap.size w w') : TraceIn S w' base ta te st := h.keep fun g _ hl => hb.block g hl
theorem TraceIn.poke {S : MM × Int} {base q : Nat} {ta te : Value} {st : Int} (h : TraceIn S w base ta te st) (hq : q < base ∨ w.heap.size ≤ q) (u0 u1 u2 : Value) :
    TraceIn S (((w.setCell ⟨q, 0, none⟩ u0).setCell ⟨q, 1, none⟩ u1).setCell ⟨q, 2, none⟩ u2) base ta te st :=
  h.keep fun g h1 h2 => ((Below.heap_setCell _ _ _ _ (show g ≠ q by omega)).trans (Below.heap_setCell _ _ _ _ (show g ≠ q by omega))).trans (Below.heap_setCell _ _ _ _ (show g ≠ q by omega))
def RunRes (mem : Int) (l : List (Value × List OpD)) (cs : List (Int × Int)) (sc : List PickD) (w : World) (e : Ending) (w' : World) : Prop :=
  ∃ ao n c eo m d st, e = .returned (.tuple #[.agg #[.slice ao n c, .slice eo m d, .int .i64 st], .int .i64 (runE mem l cs sc)]) ∧ (runE mem l cs sc = 0 → TraceIn (doActs (newM mem (l.map (·.2)) cs, 0) (actsS sc)) w' w.heap.size (.slice ao n c) (.slice eo m d) st) ∧ Below w.heap.size w w'
theorem grown_keep {v : Value} {q : Nat} {o : Obj} (g : w.grownBy w' v.ownBlock) (hq : w.heap[q]? = some o) (hne : v.ownBlock ≠ some q) : w'.heap[q]? = some o := by
  rw [g.block q (lt_of_block hq) (fun e => hne e.symm)]; exact hq
/-- what an append in a region leaves -/
structure Grew (w0 w w' : World) (v : Value) (l : List PickD) : Prop where
  own : w'.ownsRow w0.heap.size 169 3 v l.length (l.flatMap encPk)
  old : Below w0.heap.size w0 w'
theorem Grew.of {w0 : World} {v v' : Value} {l : List PickD} (hb : Below w0.heap.size w0 w) (hv : ∀ k, v.ownBlock = some k → w0.heap.size ≤ k) (ho : w'.ownsRow w0.heap.size 169 3 v' l.length (l.flatMap encPk)) (hg : w.grownBy w' v.ownBlock) : Grew w0 w w' v' l :=
  ⟨ho, hb.grown hg hb.size hv⟩
theorem run_res {ca cca sa : Option Addr} {ccap ccca scap : Nat} {l : List (Value × List OpD)} {cs : List (Int × Int)} {sc : List PickD} (h : CodeAt w (.slice ca l.length ccap) l) (hc : RdT encCell w 2 (.slice cca cs.length ccca) cs) (mem : Int) (hl : l.length ≤ 6000000000000) (hcl : cs.length ≤ 9000000000000)
    (hs : RdT encPk w 3 (.slice sa sc.length scap) sc) (hm : sc.length ≤ 9000000000000) (hn : ∀ p ∈ sc, -9223372036854775808 ≤ p.n ∧ 0 ≤ p.kind) :
    Calls Tryz.prog 22 #[.agg #[.slice ca l.length ccap, .int .i64 mem, .slice cca cs.length ccca], .slice sa sc.length scap] w (RunRes mem l cs sc w) := by
  by_cases he : runE mem l cs sc = 0
  · have hk : checkM mem l cs = 0 := by
      unfold runE at he
      split at he
      · assumption
      · rename_i hc; simpa using hc
    have h2 : (lengthS sc).2 = 0 := by
      unfold runE at he
      rw [if_neg (by simpa using hk)] at he
      exact he
    refine (run_yes h hc mem hl hcl hk hs hm hn h2).mono ?_
    rintro e w1 ⟨ga, ls, ve, vec, rfl, hrow, hse, -, hms, hev, -, hb⟩
    exact ⟨_, _, _, _, _, _, _, by rw [he], fun _ => ⟨rfl, _, ls, _, ve, vec, rfl, rfl, hrow, fun s hs => (hse s hs).1, hms, hev⟩, hb⟩
  · refine (run_no h hc mem hl hcl hs hm hn he).mono ?_
    rintro e w1 ⟨rfl, hb⟩
    exact ⟨_, _, _, _, _, _, _, rfl, fun h => absurd h he, hb⟩


theorem rd_prefix {α : Type} {enc : α → List Value} {sz n c : Nat} {ao : Option Addr} {l p : List α} (he : ∀ a, (enc a).length = sz) (h : Rd w sz (.slice ao n c) n (l.flatMap enc)) (hp : p <+: l) (hn : n = l.length) : Rd w sz (.slice ao p.length c) p.length (p.flatMap enc) := by
  obtain ⟨r, rfl⟩ := hp
  obtain ⟨h1, ao', c', e, h2, h3⟩ := h
  simp only [Value.slice.injEq, true_and] at e
  obtain ⟨rfl, rfl⟩ := e
  rw [List.length_append] at hn
  refine ⟨flat_len he p, ao, c, rfl, by omega, fun hpos => ?_⟩
  obtain ⟨b, off, rfl, hb, hc⟩ := h3 (by omega)
  refine ⟨b, off, rfl, hb, fun j u hj => hc j u ?_⟩
  rw [List.flatMap_append, List.getElem?_append_left (List.getElem?_eq_some_iff.1 hj).1]
  exact hj
theorem times_len (p : PickD) : ∀ j, (timesS p j).length = j * (onceS p).length
  | 0 => by simp [timesS]
  | j + 1 => by rw [timesS, List.length_append, times_len p j, Nat.add_mul]; omega
theorem pick_len {p : PickD} (hb : pbad p = false) (hn : p.n ≤ 1048576) : ((pickS p).length : Int) ≤ plen p := by
  have h0 : 0 ≤ p.n := by unfold pbad at hb; simp at hb; omega
  unfold pickS
  rw [times_len]
  unfold plen onceS
  by_cases h2 : p.kind = 2
  · rw [if_pos h2, h2]
    simp
    omega
  · rw [if_neg h2]
    split <;> simp <;> omega
theorem acts_len : ∀ {l : List PickD}, l.any pbad = false → (∀ p ∈ l, p.n ≤ 1048576) → ((actsS l).length : Int) ≤ total l
  | [], _, _ => by simp [actsS, total]
  | p :: l, hb, hn => by
    simp only [List.any_cons, Bool.or_eq_false_iff] at hb
    have h1 := pick_len hb.1 (hn p (by simp))
    have h2 := acts_len (l := l) hb.2 fun q hq => hn q (by simp [hq])
    have h3 : (actsS (p :: l)).length = (pickS p).length + (actsS l).length := by simp [actsS]
    have h4 : total (p :: l) = plen p + total l := by simp [total]
    omega
theorem acts_ok : ∀ (l : List Act1) {N : Nat} {S : MM × Int}, MOk N S.1 → MOk (N + l.length) (doActs S l).1
  | [], N, S, h => h
  | a :: l, N, S, h => by
    have h1 : MOk (N + 1) (doAct S a).1 := by
      cases a with
      | step z => exact h.step z
      | flush z => exact (h.flush z).mono (by omega)
    have h2 := acts_ok l h1
    have e : N + (a :: l).length = N + 1 + l.length := by simp; omega
    rw [e]
    exact h2
/-- what a trace shows is within bounds -/
theorem trace_bounds {S : MM × Int} {N : Nat} {ls : List SX} (hk : MOk N S.1) (hm : ls.map (fun s => (s.out, s.fin)) = S.1.ths.map (fun t => (t.out, t.fin))) : ls.length ≤ 4 ∧ ∀ s ∈ ls, s.out.length ≤ N := by
  have hl := congrArg List.length hm
  simp only [List.length_map] at hl
  refine ⟨by have := hk.four; omega, fun s hs => ?_⟩
  have h9 : (s.out, s.fin) ∈ S.1.ths.map (fun t => (t.out, t.fin)) := by rw [← hm]; exact List.mem_map.2 ⟨s, hs, rfl⟩
  obtain ⟨t, ht, he⟩ := List.mem_map.1 h9
  have h8 := (hk.th t ht).out
  simp only [Prod.mk.injEq] at he
  rw [← he.1]
  exact h8
def PickOk (p : PickD) : Prop := (0 ≤ p.kind ∧ p.kind < 256) ∧ in64 p.th ∧ in64 p.n
set_option maxRecDepth 100000 in
theorem pick_elem {H : Type} {enc : TypeId × Value → H} {w : World} {held : Bool} (fuel : Nat) (cs : List Value) (x : DataW H × List MemPlace) (h : DataW.trod enc Tryz.prog w 0 (fun _ => true) held fuel 169 cs = some x) : ∃ a, cs = encPk a ∧ PickOk a := by
  obtain ⟨xs, n, _, rfl, hl, hlen, hf⟩ := DataW.trod_struct Tryz.underlying169 h
  rw [show Tryz.prog.cellsOf 169 = 3 from by kernel_rfl] at hl
  match xs, hlen with
  | [y0, y1, y2], _ =>
  have e1 : Tryz.prog.cellsOf 167 = 1 := by kernel_rfl
  have e2 : Tryz.prog.cellsOf 3 = 1 := by kernel_rfl
  obtain ⟨v0, h0, -, w0⟩ := DataW.trod_int Tryz.underlying167 (hf 0 _ rfl)
  obtain ⟨v1, h1, -, w1⟩ := DataW.trod_int Tryz.underlying3 (hf 1 _ rfl)
  obtain ⟨v2, h2, -, w2⟩ := DataW.trod_int Tryz.underlying3 (hf 2 _ rfl)
  match cs, hl with
  | [c0, c1, c2], _ =>
    simp [e1] at h0
    simp [e2] at h1 h2
    exact ⟨⟨v0, v1, v2⟩, by simp [encPk, h0, h1, h2], wf8T w0, wf_i64 w1, wf_i64 w2⟩
end

end Go.Proofs.YthmmbldhbdnfpaaGreatDoor

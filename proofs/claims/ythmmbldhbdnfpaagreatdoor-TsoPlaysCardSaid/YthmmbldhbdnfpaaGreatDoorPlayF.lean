/- turnstilelaw01: how great an image is; whether that is beyond what a law speaks of; images that came in. -/
import Derived.Test.YthmmbldhbdnfpaaGreatDoorMTsoN
import Derived.Test.YthmmbldhbdnfpaaGreatDoorTsoEl
import Derived.Test.YthmmbldhbdnfpaaGreatDoorMBase
namespace Go.Proofs.YthmmbldhbdnfpaaGreatDoor
open Go.RowKit
set_option linter.unusedVariables false
set_option linter.unusedSimpArgs false

variable {w w' : World}

set_option maxHeartbeats 1000000 in
theorem counted_any (w : World) (z : Int) (hz : -9223372036854775808 ≤ z ∧ z ≤ 262144) :
    Calls Tryz.prog 29 #[.int .i64 z] w fun e w' => e = .returned (.int .i64 (if z < 0 then 262145 else 262144 - z)) ∧ Below w.heap.size w w' := by
  obtain ⟨h1, h2⟩ := hz
  go_enter Tryz.func29, Tryz.ntmps29
  go_wp2_with fail
  all_goals (go_ret; exact ⟨rfl, Below.refl _ _⟩)

set_option maxRecDepth 100000 in
set_option maxHeartbeats 1000000 in
theorem imageSize_any {ca cca : Option Addr} {ccap ccca : Nat} {l : List (Value × List OpD)} {cs : List (Int × Int)} (h : CodeAt w (.slice ca l.length ccap) l) (mem : Int) (hl : l.length ≤ 9223372036854775807) (hcl : cs.length ≤ 9223372036854775807) (hol : ∀ p ∈ l, p.2.length ≤ 9223372036854775807) :
    Calls Tryz.prog 6 #[.agg #[.slice ca l.length ccap, .int .i64 mem, .slice cca cs.length ccca]] w fun e w' => ∃ z : Int, e = .returned (.int .i64 z) ∧ (0 ≤ z ∧ z ≤ 262145) ∧ (z ≤ 262144 → cs.length ≤ 262144 ∧ l.length ≤ 262144) ∧ Below w.heap.size w w' := by
  have H := hidI h
  have HOL := hidI hol
  have hb0 : Below w.heap.size w (w.alloc (.cells #[.slice ca l.length ccap, .int .i64 mem, .slice cca cs.length ccca] 25)) := (Below.refl _ _).alloc (Nat.le_refl _) _
  have H0 := hidI (h.below hb0)
  have HB0 := hidI hb0
  clear h hol hb0
  go_enter Tryz.func6, Tryz.ntmps6
  go_wp2_with fail
  have hbox := block_new w (.cells #[.slice ca l.length ccap, .int .i64 mem, .slice cca cs.length ccca] 25)
  obtain ⟨w0, hw0⟩ : ∃ w0, w0 = w.alloc (.cells #[.slice ca l.length ccap, .int .i64 mem, .slice cca cs.length ccca] 25) := ⟨_, rfl⟩
  rw [← hw0] at hbox H0 HB0 ⊢
  have HBX := hidI hbox
  clear hw0 hbox
  go_loopw [3, 4] (fun v i w' => ∃ (k : Nat) (z : Int), k ≤ l.length ∧ i = .int .i64 (k : Int) ∧ v = .int .i64 z ∧ -9223372036854775808 ≤ z ∧ z ≤ 262144 - cs.length - k ∧ ∃ n, w' = w0.drewN n) (fun v i _ => ((l.length : Int) - intOf i).toNat)
  case atStart => exact ⟨0, 262144 - cs.length, by omega, rfl, rfl, by omega, by omega, 0, rfl⟩
  case round =>
    obtain ⟨k, z, hk, rfl, rfl, hz1, hz2, n, rfl⟩ := hrel
    have q0 : w0.cell? ⟨w.heap.size, 0, none⟩ = some (.slice ca l.length ccap) := cell_of_block HBX.out rfl
    by_cases hlt : k < l.length
    · by_cases hz0 : z < 0
      · go_wp2_with fail
        refine (counted_any _ z ⟨hz1, by omega⟩).mono ?_
        rintro e w1 ⟨rfl, hb⟩
        have HB := hidI (below_drewN HB0.out n |>.trans (hb.mono HB0.out.size))
        clear hb
        rw [if_pos hz0]
        go_wp2_with fail
        go_ret
        exact ⟨262145, rfl, by omega, by omega, HB.out⟩
      · have hz3 : z ≥ 0 := by omega
        obtain ⟨p, hp⟩ := some_at hlt
        have hol := HOL.out p (List.mem_of_getElem? hp)
        obtain ⟨gb, co, rfl, hgb, hcc⟩ := RdT.at encC_len H0.out.rows hp
        have i0 := hcc 0 _ rfl
        obtain ⟨ao, cap, hcv⟩ := (H0.out.each p (List.mem_of_getElem? hp)).shape
        rw [Nat.mul_one, Nat.add_zero, hcv] at i0
        clear hcc hcv hp
        go_wp2_with fail
        exact ⟨⟨k + 1, _, by omega, by go_num, rfl, by omega, by omega, n, rfl⟩, by simp [intOf]; omega⟩
    · obtain rfl : k = l.length := by omega
      go_wp2_with fail
      refine (counted_any _ z ⟨hz1, by omega⟩).mono ?_
      rintro e w1 ⟨rfl, hb⟩
      have HB := hidI (below_drewN HB0.out n |>.trans (hb.mono HB0.out.size))
      clear hb
      by_cases hz0 : z < 0
      · rw [if_pos hz0]
        go_wp2_with fail
        go_ret
        exact ⟨262145, rfl, by omega, by omega, HB.out⟩
      · rw [if_neg hz0]
        go_wp2_with fail
        go_ret
        exact ⟨262144 - z, rfl, by omega, by omega, HB.out⟩

/-- Beyond of two sizes -/
theorem beyond2 {b : Nat} {t : TypeId} {y z : Int} (hb : w.heap[b]? = some (.cells #[.int .i64 y, .int .i64 z] t (0, 0))) (hy : 0 ≤ y ∧ y ≤ 9223372036854775807) (hz : 0 ≤ z ∧ z ≤ 9223372036854775807) :
    Calls Tryz.prog 5 #[.slice (some ⟨b, 0, none⟩) 2 2] w fun e w' => ∃ r, e = .returned (.bool r) ∧ (r = false → y ≤ 262144 ∧ z ≤ 262144) ∧ Below w.heap.size w w' := by
  have x0 : w.cell? ⟨b, 0, none⟩ = some (.int .i64 y) := cell_of_block hb rfl
  have x1 : w.cell? ⟨b, 1, none⟩ = some (.int .i64 z) := cell_of_block hb rfl
  obtain ⟨hy0, hy1⟩ := hy
  obtain ⟨hz0, hz1⟩ := hz
  clear hb
  by_cases h1 : y > 262144
  · have hn0 : ¬ y < 0 := by omega
    go_enter Tryz.func5, Tryz.ntmps5
    go_wp2_with fail
    go_loopw [4, 3] (fun i acc wr => wr = w ∧ i = .int .i64 0 ∧ acc = .int .i64 0) (fun i _ _ => (2 - intOf i).toNat)
    case atStart => exact ⟨rfl, rfl, rfl⟩
    case round =>
      obtain ⟨rfl, rfl, rfl⟩ := hrel
      go_wp2
      go_ret
      exact ⟨true, rfl, by simp, Below.refl _ _⟩
  · have hn0 : ¬ y < 0 := by omega
    by_cases h2 : z > 262144
    · have hn1 : ¬ z < 0 := by omega
      go_enter Tryz.func5, Tryz.ntmps5
      go_wp2_with fail
      go_loopw [4, 3] (fun i acc wr => wr = w ∧ (i = .int .i64 0 ∧ acc = .int .i64 0 ∨ i = .int .i64 1 ∧ acc = .int .i64 y)) (fun i _ _ => (2 - intOf i).toNat)
      case atStart => exact ⟨rfl, .inl ⟨rfl, rfl⟩⟩
      case round =>
        obtain ⟨rfl, ⟨rfl, rfl⟩ | ⟨rfl, rfl⟩⟩ := hrel
        · go_wp2
          exact ⟨⟨trivial, .inr ⟨rfl, rfl⟩⟩, by simp [intOf]⟩
        · go_wp2
          go_ret
          exact ⟨true, rfl, by simp, Below.refl _ _⟩
    · have hn1 : ¬ z < 0 := by omega
      by_cases h3 : y + z > 262144
      · go_enter Tryz.func5, Tryz.ntmps5
        go_wp2_with fail
        go_loopw [4, 3] (fun i acc wr => wr = w ∧ (i = .int .i64 0 ∧ acc = .int .i64 0 ∨ i = .int .i64 1 ∧ acc = .int .i64 y)) (fun i _ _ => (2 - intOf i).toNat)
        case atStart => exact ⟨rfl, .inl ⟨rfl, rfl⟩⟩
        case round =>
          obtain ⟨rfl, ⟨rfl, rfl⟩ | ⟨rfl, rfl⟩⟩ := hrel
          · go_wp2
            exact ⟨⟨trivial, .inr ⟨rfl, rfl⟩⟩, by simp [intOf]⟩
          · go_wp2
            go_ret
            exact ⟨true, rfl, by simp, Below.refl _ _⟩
      · go_enter Tryz.func5, Tryz.ntmps5
        go_wp2_with fail
        go_loopw [4, 3] (fun i acc wr => wr = w ∧ (i = .int .i64 0 ∧ acc = .int .i64 0 ∨ i = .int .i64 1 ∧ acc = .int .i64 y ∨ i = .int .i64 2 ∧ acc = .int .i64 (y + z))) (fun i _ _ => (2 - intOf i).toNat)
        case atStart => exact ⟨rfl, .inl ⟨rfl, rfl⟩⟩
        case round =>
          obtain ⟨rfl, ⟨rfl, rfl⟩ | ⟨rfl, rfl⟩ | ⟨rfl, rfl⟩⟩ := hrel
          · go_wp2
            exact ⟨⟨trivial, .inr (.inl ⟨rfl, rfl⟩)⟩, by simp [intOf]⟩
          · go_wp2
            exact ⟨⟨trivial, .inr (.inr ⟨rfl, rfl⟩)⟩, by simp [intOf]⟩
          · go_wp2
            go_ret
            exact ⟨false, rfl, fun _ => ⟨by omega, by omega⟩, Below.refl _ _⟩

/-- code that came in -/
theorem codeT_elem {H : Type} {enc : TypeId × Value → H} {w : World} {held : Bool} (fuel : Nat) (cs : List Value) (x : DataW H × List MemPlace) (h : DataW.trod enc Tryz.prog w 0 (fun _ => true) held fuel 40 cs = some x) :
    ∃ a : Value × List OpD, cs = encC a ∧ (RdT encOp w 6 a.1 a.2 ∧ (∀ o ∈ a.2, wfOp o) ∧ a.2.length ≤ 9223372036854775807) := by
  rcases Go.Deep.open_slice Tryz.underlying40 h with ⟨rfl, _⟩ | ⟨a, len, cap, m, n, D, Pl, rfl, _⟩
  · exact ⟨(.slice none 0 0, []), rfl, Rd.nil w 6, by simp, by simp⟩
  · obtain ⟨l, rfl, hr, hm, hok, -⟩ := slice_open (d := x.1) (p := x.2) (sz := 6) (e := 44) encOp_len (by decide) Tryz.underlying40 (by kernel_rfl) opT_elem ⟨fuel, by simpa [Value.cells] using h⟩
    exact ⟨(.slice (some a) l.length cap, l), rfl, hr, hok, hm⟩
theorem encC_len' : ∀ p, (encC p).length = 1 := fun _ => rfl

set_option maxRecDepth 100000 in
theorem image_open {H : Type} {enc : TypeId × Value → H} {w : World} {held : Bool} {r : Reach} {b0 : Nat} {v : Value} {d : DataW H} {p : List MemPlace} (hv : Value.okWide Tryz.prog w r b0 25 v)
    (h : DataW.Trod enc Tryz.prog w 0 (fun _ => true) held 25 v d p) :
    ∃ (ca cca : Option Addr) (ccap ccca : Nat) (l : List (Value × List OpD)) (cs : List (Int × Int)) (mem : Int), v = .agg #[.slice ca l.length ccap, .int .i64 mem, .slice cca cs.length ccca] ∧ CodeAt w (.slice ca l.length ccap) l ∧ RdT encCell w 2 (.slice cca cs.length ccca) cs ∧
      in64 mem ∧ (∀ c ∈ cs, in64 c.1 ∧ in64 c.2) ∧ l.length ≤ 9223372036854775807 ∧ cs.length ≤ 9223372036854775807 ∧ ∀ p ∈ l, p.2.length ≤ 9223372036854775807 := by
  obtain ⟨c0, c1, c2, y0, y1, y2, m0, rfl, e0, e0p, hy0, hy1, hy2⟩ := Go.Joins.open_agg3 Tryz.underlying25 (by kernel_rfl) (by kernel_rfl) hv h
  obtain ⟨mem, hmem, -, hw⟩ := DataW.trod_int Tryz.underlying3 hy1
  simp only [List.cons.injEq, and_true] at hmem
  subst hmem
  have hl : ∃ (ca : Option Addr) (ccap : Nat) (l : List (Value × List OpD)), c0 = .slice ca l.length ccap ∧ CodeAt w (.slice ca l.length ccap) l ∧ l.length ≤ 9223372036854775807 ∧ ∀ p ∈ l, p.2.length ≤ 9223372036854775807 := by
    rcases Go.Deep.open_slice Tryz.underlying22 hy0 with ⟨e, _⟩ | ⟨a, len, cap, m, n, D, Pl, e, _⟩
    · simp only [List.cons.injEq, and_true] at e
      subst e
      exact ⟨none, 0, [], rfl, ⟨Rd.nil w 1, by simp, by simp⟩, by simp, by simp⟩
    · simp only [List.cons.injEq, and_true] at e
      subst e
      obtain ⟨l, rfl, hr, hm, hok, -⟩ := slice_open (d := y0.1) (p := y0.2) (sz := 1) (e := 40) encC_len (by decide) Tryz.underlying22 (by kernel_rfl) codeT_elem ⟨m0, by simpa [Value.cells] using hy0⟩
      exact ⟨some a, cap, l, rfl, ⟨hr, fun p hp => (hok p hp).1, fun p hp => (hok p hp).2.1⟩, hm, fun p hp => (hok p hp).2.2⟩
  have hcs : ∃ (ca : Option Addr) (ccap : Nat) (l : List (Int × Int)), c2 = .slice ca l.length ccap ∧ RdT encCell w 2 (.slice ca l.length ccap) l ∧ (∀ c ∈ l, in64 c.1 ∧ in64 c.2) ∧ l.length ≤ 9223372036854775807 := by
    rcases Go.Deep.open_slice Tryz.underlying23 hy2 with ⟨e, _⟩ | ⟨a, len, cap, m, n, D, Pl, e, _⟩
    · simp only [List.cons.injEq, and_true] at e
      subst e
      exact ⟨none, 0, [], rfl, Rd.nil w 2, by simp, by simp⟩
    · simp only [List.cons.injEq, and_true] at e
      subst e
      obtain ⟨l, rfl, hr, hm, hok, -⟩ := slice_open (d := y2.1) (p := y2.2) (sz := 2) (e := 105) encCell_len (by decide) Tryz.underlying23 (by kernel_rfl) cellT_elem ⟨m0, by simpa [Value.cells] using hy2⟩
      exact ⟨some a, cap, l, rfl, hr, hok, hm⟩
  obtain ⟨ca, ccap, l, rfl, h1, h2, h3⟩ := hl
  obtain ⟨cca, ccca, cs, rfl, g1, g2, g3⟩ := hcs
  exact ⟨ca, cca, ccap, ccca, l, cs, mem, rfl, h1, g1, wf_i64 hw, g2, h2, g3, h3⟩
end Go.Proofs.YthmmbldhbdnfpaaGreatDoor

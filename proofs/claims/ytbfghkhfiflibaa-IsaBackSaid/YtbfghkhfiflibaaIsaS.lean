/- turnstilelaw01.Beyond of two lengths; the walk of IsaBack. -/
import Derived.Test.YtbfghkhfiflibaaIsaH
import Derived.Test.YtbfghkhfiflibaaIsaR
namespace Go.Proofs.Ytbfghkhfiflibaa
open Go.RowKit

set_option maxHeartbeats 2000000 in
theorem beyond2 {w : World} {b : Nat} {t : TypeId} (n m : Nat) (hb : w.heap[b]? = some (.cells #[.int .i64 (n : Int), .int .i64 (m : Int)] t (0, 0))) (hn : n < 2 ^ 62) (hm : m < 2 ^ 62) :
    Calls Try.prog 9 #[.slice (some ⟨b, 0, none⟩) 2 2] w fun e w' => e = .returned (.bool (decide (262144 < n + m))) ∧ Below w.heap.size w w' := by
  have x0 : w.cell? ⟨b, 0, none⟩ = some (.int .i64 (n : Int)) := cell_of_block hb rfl
  have x1 : w.cell? ⟨b, 1, none⟩ = some (.int .i64 (m : Int)) := cell_of_block hb rfl
  clear hb
  have g1 : ¬ ((n : Int) < 0) := by omega
  have g2 : ¬ ((m : Int) < 0) := by omega
  by_cases h : n ≤ 262144
  · have h1 : ¬ ((n : Int) > 262144) := by omega
    by_cases h2 : n + m ≤ 262144
    · have h3 : ¬ ((m : Int) > 262144) := by omega
      have h4 : ¬ ((n : Int) + (m : Int) > 262144) := by omega
      rw [show decide (262144 < n + m) = false from by simp; omega]
      go_enter Try.func9, Try.ntmps9
      go_wp2_with fail
      go_loopw [4, 3] (fun i acc wr => wr = w ∧ (i = .int .i64 0 ∧ acc = .int .i64 0 ∨ i = .int .i64 1 ∧ acc = .int .i64 (n : Int) ∨ i = .int .i64 2 ∧ acc = .int .i64 ((n : Int) + (m : Int)))) (fun i _ _ => (2 - intOf i).toNat)
      case atStart => exact ⟨rfl, .inl ⟨rfl, rfl⟩⟩
      case round =>
        obtain ⟨rfl, ⟨rfl, rfl⟩ | ⟨rfl, rfl⟩ | ⟨rfl, rfl⟩⟩ := hrel
        · go_wp2
          exact ⟨⟨trivial, .inr (.inl ⟨rfl, rfl⟩)⟩, by simp [intOf]⟩
        · go_wp2
          exact ⟨⟨trivial, .inr (.inr ⟨rfl, rfl⟩)⟩, by simp [intOf]⟩
        · go_wp2
          go_ret
          exact ⟨rfl, Below.refl _ _⟩
    · rw [show decide (262144 < n + m) = true from by simp; omega]
      by_cases h3 : m ≤ 262144
      · have h4 : ¬ ((m : Int) > 262144) := by omega
        have h5 : ((n : Int) + (m : Int) > 262144) := by omega
        go_enter Try.func9, Try.ntmps9
        go_wp2_with fail
        go_loopw [4, 3] (fun i acc wr => wr = w ∧ (i = .int .i64 0 ∧ acc = .int .i64 0 ∨ i = .int .i64 1 ∧ acc = .int .i64 (n : Int))) (fun i _ _ => (2 - intOf i).toNat)
        case atStart => exact ⟨rfl, .inl ⟨rfl, rfl⟩⟩
        case round =>
          obtain ⟨rfl, ⟨rfl, rfl⟩ | ⟨rfl, rfl⟩⟩ := hrel
          · go_wp2
            exact ⟨⟨trivial, .inr ⟨rfl, rfl⟩⟩, by simp [intOf]⟩
          · go_wp2
            go_ret
            exact ⟨rfl, Below.refl _ _⟩
      · have h4 : ((m : Int) > 262144) := by omega
        go_enter Try.func9, Try.ntmps9
        go_wp2_with fail
        go_loopw [4, 3] (fun i acc wr => wr = w ∧ (i = .int .i64 0 ∧ acc = .int .i64 0 ∨ i = .int .i64 1 ∧ acc = .int .i64 (n : Int))) (fun i _ _ => (2 - intOf i).toNat)
        case atStart => exact ⟨rfl, .inl ⟨rfl, rfl⟩⟩
        case round =>
          obtain ⟨rfl, ⟨rfl, rfl⟩ | ⟨rfl, rfl⟩⟩ := hrel
          · go_wp2
            exact ⟨⟨trivial, .inr ⟨rfl, rfl⟩⟩, by simp [intOf]⟩
          · go_wp2
            go_ret
            exact ⟨rfl, Below.refl _ _⟩
  · have h1 : ((n : Int) > 262144) := by omega
    rw [show decide (262144 < n + m) = true from by simp; omega]
    go_enter Try.func9, Try.ntmps9
    go_wp2_with fail
    go_loopw [4, 3] (fun i acc wr => wr = w ∧ i = .int .i64 0 ∧ acc = .int .i64 0) (fun i _ _ => (2 - intOf i).toNat)
    case atStart => exact ⟨rfl, rfl, rfl⟩
    case round =>
      obtain ⟨rfl, rfl, rfl⟩ := hrel
      go_wp2
      go_ret
      exact ⟨rfl, Below.refl _ _⟩

theorem encV_yes {l : List OpD} (h : l.all checkS = true) : encV l = .tuple #[.string (strOf (l.flatMap bytesS)), .int .i64 0] := by unfold encV strOf; rw [if_pos h]
theorem encV_bad {l : List OpD} (h : l.all checkS = false) : encV l = .tuple #[.string ⟨#[]⟩, .int .i64 1] := by unfold encV; rw [if_neg (by rw [h]; decide)]
theorem strOf_app (a b : List UInt8) : strOf a ++ strOf b = strOf (a ++ b) := by
  apply ByteArray.ext
  simp [strOf]
theorem strOf_back (s : ByteArray) : strOf s.data.toList = s := by
  apply ByteArray.ext
  simp [strOf]

/-- the twin with m laid behind it -/
theorem twin_row {w : World} {base g : Nat} {l : List OpD} (h : w.heap[g]? = some (.cells ((l ++ [markO l.length, markO (l.length + 1)]).flatMap encOp).toArray 25 (0, 0))) (hb : base ≤ g) (hl : l.length ≤ 262144) :
    w.ownsRow base 25 6 (.slice (some ⟨g, 0, none⟩) l.length (l.length + 2)) l.length (l.flatMap encOp) := by
  rw [List.flatMap_append] at h
  exact own_of_block h hb (by unfold maxLen; omega) (by omega) (flat_len encOp_len l) (by rw [← List.flatMap_append, flat_len encOp_len]; simp)

theorem twin_rd {w : World} {base : Nat} {e : TypeId} {v : Value} {l : List OpD} (h : w.ownsRow base e 6 v l.length (l.flatMap encOp)) : RdT encOp w 6 v l := Rd.of_own h

set_option maxRecDepth 100000 in
set_option maxHeartbeats 8000000 in
theorem back_any {w : World} {ao bo : Option Addr} {ca cb : Nat} {l m : List OpD} (hl : RdT encOp w 6 (.slice ao l.length ca) l) (hm : RdT encOp w 6 (.slice bo m.length cb) m) (hwl : ∀ o ∈ l, wfOp o) (hwm : ∀ o ∈ m, wfOp o)
    (hll : l.length < 2 ^ 60) (hml : m.length < 2 ^ 60) (bs : List UInt8) (hbs : bs.length ≤ 9223372036854775807) :
    Calls Try.prog 5 #[.slice ao l.length ca, .slice bo m.length cb, .string (strOf bs)] w fun e w' => e = .returned (.bool true) ∧ Below w.heap.size w w' := by
  obtain ⟨i0, hi, hz0, hz1, hz2⟩ := info_parts opInfo
  have HL := hidI hl
  have HM := hidI hm
  have HWL := hidI hwl
  have HWM := hidI hwm
  clear hl hm hwl hwm
  have fin : ∀ {w2 w3 w4 : World}, Below w2.heap.size w2 w3 → Below w3.heap.size w3 w4 → Below w2.heap.size w2 w4 := fun h1 h2 => h1.trans (h2.mono h1.size)
  go_enter Try.func5, Try.ntmps5
  go_wp2_with fail
  refine (beyond2 l.length m.length (block_new w _) (by omega) (by omega)).mono ?_
  rintro e w1 ⟨rfl, hb1⟩
  have HB1 := hidI (bnextA (Below.refl _ _) hb1)
  clear hb1
  by_cases hB : 262144 < l.length + m.length
  · have eB : decide (262144 < l.length + m.length) = true := by simpa using hB
    rw [eB]
    go_wp2_with fail
    refine (alive_any _).mono ?_
    rintro e w2 ⟨rfl, hb2⟩
    have HB2 := hidI (fin HB1.out hb2)
    clear hb2
    go_wp2_with fail
    go_ret
    exact ⟨rfl, HB2.out⟩
  have eB : decide (262144 < l.length + m.length) = false := by simp; omega
  rw [eB]
  have hB2 : ¬ ((l.length : Int) + (m.length : Int) > 262144) := by omega
  have hB3 : decide ((262144 : Int) < (l.length : Int) + (m.length : Int)) = false := decide_eq_false (by omega)
  have hl2 : l.length ≤ 262144 := by omega
  have hm2 : m.length ≤ 262144 := by omega
  go_wp2_with fail
  refine (encode_any (Rd.below HL.out HB1.out) HWL.out hl2).mono ?_
  rintro e w2 ⟨rfl, hb2⟩
  have HB2 := hidI (fin HB1.out hb2)
  clear hb2
  obtain ⟨s1, c1, hs1⟩ := encV_tuple l
  rw [hs1]
  have HS1 := hidI hs1
  clear hs1
  go_wp2_with fail
  refine (encode_any (Rd.below HM.out HB2.out) HWM.out hm2).mono ?_
  rintro e w3 ⟨rfl, hb3⟩
  have HB3 := hidI (fin HB2.out hb3)
  clear hb3
  obtain ⟨s2, c2, hs2⟩ := encV_tuple m
  rw [hs2]
  have HS2 := hidI hs2
  clear hs2
  go_wp2_with fail
  refine (twinOps_any (Rd.below HL.out HB3.out) (by omega)).mono ?_
  rintro e w4 ⟨g, hg, rfl, hgb, hb4⟩
  have hg3 := HB3.out.size
  have HB4 := hidI (fin HB3.out hb4)
  have HROW := hidI (twin_row (base := w.heap.size) hgb (by omega) hl2)
  clear hgb hb4
  have HM4 := hidI (Rd.below HM.out HB4.out)
  have REST : ∀ {ao9 : Option Addr} {cp9 : Nat} {w9 : World}, w9.ownsRow w.heap.size 25 6 (.slice ao9 (l.length + m.length) cp9) (l.length + m.length) ((l ++ m).flatMap encOp) → RdT encOp w9 6 (.slice ao9 (l ++ m).length cp9) (l ++ m) := by
    intro ao9 cp9 w9 h
    have h1 := Rd.of_own h
    rw [← List.length_append] at h1
    exact h1
  cases bo with
  | none =>
    have hm0 : m = [] := by
      obtain ⟨_, ao', cap', hv, _, h3⟩ := HM.out
      simp only [Value.slice.injEq] at hv
      obtain ⟨rfl, -, -⟩ := hv
      cases m with
      | nil => rfl
      | cons a t => obtain ⟨b, off, hb, _⟩ := h3 (by simp); cases hb
    subst hm0
    go_wp2_with fail
    refine (encode_any (l := l) (twin_rd HROW.out) HWL.out hl2).mono ?_
    rintro e w6 ⟨rfl, hb6⟩
    have HB6 := hidI (fin HB4.out hb6)
    clear hb6
    have h1 := HS1.out
    have h2 := HS2.out
    cases hL : l.all checkS with
    | true =>
      rw [encV_yes hL] at h1
      simp only [Value.tuple.injEq, Array.mk.injEq, List.cons.injEq, Value.string.injEq, Value.int.injEq, true_and, and_true] at h1
      obtain ⟨rfl, rfl⟩ := h1
      rw [encV_yes (l := []) rfl] at h2
      simp only [Value.tuple.injEq, Array.mk.injEq, List.cons.injEq, Value.string.injEq, Value.int.injEq, true_and, and_true] at h2
      obtain ⟨rfl, rfl⟩ := h2
      rw [encV_yes (l := l) hL]
      have HCL := hidI hL
      clear hL
      obtain ⟨A, hA⟩ : ∃ x, x = l.flatMap bytesS := ⟨_, rfl⟩
      obtain ⟨B, hB'⟩ : ∃ x, x = ([] : List OpD).flatMap bytesS := ⟨_, rfl⟩
      rw [← hA, show strOf (([] : List OpD).flatMap bytesS) = strOf B from by rw [hB']]
      have hcat : strOf A ++ strOf B = strOf A := by rw [strOf_app, hB']; simp
      have hA9 : A.length ≤ 3407872 := by have h9 := flat_bytes_len l; rw [← hA] at h9; omega
      have hB9 : B.length ≤ 3407872 := by rw [hB']; simp
      have hsA := strOf_size A
      have hsB := strOf_size B
      have HA := hidI hA
      clear hA hB' 
      go_wp2_with fail
      refine (decode_any _ A (by have h9 := flat_bytes_len l; rw [← HA.out] at h9; omega)).mono ?_
      rintro e w7 (⟨ao7, cp7, xs, rfl, hrow7, hg7, hx7, hbx7, hb7⟩ | ⟨p7, c7, rfl, hc7, hst7, hb7⟩)
      · obtain rfl := same_bytes hg7 ⟨HCL.out, HWL.out⟩ (by rw [hbx7, HA.out])
        have HB7 := hidI (fin HB6.out hb7)
        have HR7 := hidI (Rd.of_own hrow7)
        clear hb7 hrow7 hg7 hbx7
        go_wp2_with fail
        refine (sameOps_true (l := xs) HR7.out (Rd.below HL.out HB7.out) (by omega)).mono ?_
        rintro e w11 ⟨rfl, hb11⟩
        have HB11 := hidI (fin HB7.out hb11)
        clear hb11
        go_wp2_with fail
        refine (decode_any _ bs hbs).mono ?_
        rintro e w8 (⟨ao8, cp8, ys, rfl, hrow8, hg8, hy8, hby8, hb8⟩ | ⟨p8, c8, rfl, hc8, -, hb8⟩)
        · have HB8 := hidI (fin HB11.out hb8)
          have HR8 := hidI (Rd.of_own hrow8)
          have HG8 := hidI hg8
          have HBY := hidI hby8
          clear hb8 hrow8 hg8 hby8
          go_wp2_with fail
          refine (encode_any (l := ys) HR8.out HG8.out.2 hy8).mono ?_
          rintro e w9 ⟨rfl, hb9⟩
          rw [encV_yes HG8.out.1, HBY.out]
          have HB9 := hidI (fin HB8.out hb9)
          clear hb9
          go_wp2_with fail
          refine (alive_any _).mono ?_
          rintro e w10 ⟨rfl, hb10⟩
          have HB10 := hidI (fin HB9.out hb10)
          clear hb10
          go_wp2_with fail
          go_ret
          exact ⟨rfl, HB10.out⟩
        · have HB8 := hidI (fin HB11.out hb8)
          clear hb8
          rcases hc8 with rfl | rfl
          · go_wp2_with fail
            refine (alive_any _).mono ?_
            rintro e w10 ⟨rfl, hb10⟩
            have HB10 := hidI (fin HB8.out hb10)
            clear hb10
            go_wp2_with fail
            go_ret
            exact ⟨rfl, HB10.out⟩
          · go_wp2_with fail
            refine (alive_any _).mono ?_
            rintro e w10 ⟨rfl, hb10⟩
            have HB10 := hidI (fin HB8.out hb10)
            clear hb10
            go_wp2_with fail
            go_ret
            exact ⟨rfl, HB10.out⟩
      · exact absurd HA.out.symm (hst7 l ⟨HCL.out, HWL.out⟩ hl2)
    | false =>
      rw [encV_bad hL] at h1
      simp only [Value.tuple.injEq, Array.mk.injEq, List.cons.injEq, Value.string.injEq, Value.int.injEq, true_and, and_true] at h1
      obtain ⟨rfl, rfl⟩ := h1
      rw [encV_yes (l := []) rfl] at h2
      simp only [Value.tuple.injEq, Array.mk.injEq, List.cons.injEq, Value.string.injEq, Value.int.injEq, true_and, and_true] at h2
      obtain ⟨rfl, rfl⟩ := h2
      rw [encV_bad (l := l) hL]
      have HCL := hidI hL
      clear hL
      go_wp2_with fail
      refine (decode_any _ bs hbs).mono ?_
      rintro e w8 (⟨ao8, cp8, ys, rfl, hrow8, hg8, hy8, hby8, hb8⟩ | ⟨p8, c8, rfl, hc8, -, hb8⟩)
      · have HB8 := hidI (fin HB6.out hb8)
        have HR8 := hidI (Rd.of_own hrow8)
        have HG8 := hidI hg8
        have HBY := hidI hby8
        clear hb8 hrow8 hg8 hby8
        go_wp2_with fail
        refine (encode_any (l := ys) HR8.out HG8.out.2 hy8).mono ?_
        rintro e w9 ⟨rfl, hb9⟩
        rw [encV_yes HG8.out.1, HBY.out]
        have HB9 := hidI (fin HB8.out hb9)
        clear hb9
        go_wp2_with fail
        refine (alive_any _).mono ?_
        rintro e w10 ⟨rfl, hb10⟩
        have HB10 := hidI (fin HB9.out hb10)
        clear hb10
        go_wp2_with fail
        go_ret
        exact ⟨rfl, HB10.out⟩
      · have HB8 := hidI (fin HB6.out hb8)
        clear hb8
        rcases hc8 with rfl | rfl
        · go_wp2_with fail
          refine (alive_any _).mono ?_
          rintro e w10 ⟨rfl, hb10⟩
          have HB10 := hidI (fin HB8.out hb10)
          clear hb10
          go_wp2_with fail
          go_ret
          exact ⟨rfl, HB10.out⟩
        · go_wp2_with fail
          refine (alive_any _).mono ?_
          rintro e w10 ⟨rfl, hb10⟩
          have HB10 := hidI (fin HB8.out hb10)
          clear hb10
          go_wp2_with fail
          go_ret
          exact ⟨rfl, HB10.out⟩
  | some ad =>
    go_wp2_with (at_builtin; refine wpList_append_d _ rfl _ _ 30 rfl w.heap.size 25 i0 _ 6 16 Try.underlying30 hi hz0 hz1 hz2 rfl (by decide) _ _ _ rfl HROW.out ad m.length cb (m.flatMap encOp) rfl (flat_len encOp_len m) ?c1 one_encOp ?c3 ?c4 ?c5 ?_)
    case c1 =>
      intro j u hj
      obtain ⟨_, ao', cap', hv, _, h3⟩ := HM4.out
      simp only [Value.slice.injEq] at hv
      obtain ⟨rfl, -, -⟩ := hv
      have hj2 := (List.getElem?_eq_some_iff.1 hj).1
      rw [flat_len encOp_len] at hj2
      obtain ⟨b, off, hb, _, hc⟩ := h3 (by omega)
      simp only [Option.some.injEq] at hb
      subst hb
      have h2 : (⟨b, off, none⟩ : Addr).add j = ⟨b, off + j, none⟩ := by unfold Addr.add; split <;> simp_all
      rw [h2]
      exact hc j u hj
    case c3 => unfold maxLen; omega
    case c4 => omega
    case c5 => exact HB4.out.size
    intro ao5 cp5 w5 hown5 hfrom5 hgr5
    have hc5 : Chg (fun j => (Value.slice (some ⟨g, 0, none⟩) l.length (l.length + 2)).ownBlock = some j) w4 w5 := (Chg.refl _ w4).grown hgr5 (fun k hk => .inl hk)
    have HB5 := hidI (HB4.out.trans (hc5.to_below HB4.out.size (fun k hk => (HROW.out.lt k hk).1)))
    rw [← List.flatMap_append] at hown5
    have HLM := hidI (REST hown5)
    clear hown5 hfrom5 hgr5 hc5
    go_wp2_with fail
    rw [show l.length + m.length = (l ++ m).length from List.length_append.symm]
    refine (encode_any (l := (l ++ m)) HLM.out (fun o ho => by rcases List.mem_append.1 ho with h | h; exact HWL.out o h; exact HWM.out o h) (by rw [List.length_append]; omega)).mono ?_
    rintro e w6 ⟨rfl, hb6⟩
    have HB6 := hidI (fin HB5.out hb6)
    clear hb6
    have h1 := HS1.out
    have h2 := HS2.out
    cases hL : l.all checkS with
    | true =>
      rw [encV_yes hL] at h1
      simp only [Value.tuple.injEq, Array.mk.injEq, List.cons.injEq, Value.string.injEq, Value.int.injEq, true_and, and_true] at h1
      obtain ⟨rfl, rfl⟩ := h1
      cases hM : m.all checkS with
      | true =>
        rw [encV_yes hM] at h2
        simp only [Value.tuple.injEq, Array.mk.injEq, List.cons.injEq, Value.string.injEq, Value.int.injEq, true_and, and_true] at h2
        obtain ⟨rfl, rfl⟩ := h2
        rw [encV_yes (l := (l ++ m)) (by rw [List.all_append, hL, hM]; rfl)]
        have HCL := hidI hL
        clear hL
        obtain ⟨A, hA⟩ : ∃ x, x = l.flatMap bytesS := ⟨_, rfl⟩
        obtain ⟨B, hB'⟩ : ∃ x, x = (m : List OpD).flatMap bytesS := ⟨_, rfl⟩
        obtain ⟨C, hC⟩ : ∃ x, x = ((l ++ m)).flatMap bytesS := ⟨_, rfl⟩
        rw [← hA, ← hB', ← hC]
        have hcat : strOf A ++ strOf B = strOf C := by rw [strOf_app, hA, hB', hC]; simp
        have hA9 : A.length ≤ 3407872 := by have h9 := flat_bytes_len l; rw [← hA] at h9; omega
        have hB9 : B.length ≤ 3407872 := by have h9 := flat_bytes_len m; rw [← hB'] at h9; omega
        have hsA := strOf_size A
        have hsB := strOf_size B
        have HA := hidI hA
        clear hA hB' hC
        go_wp2_with fail
        refine (decode_any _ A (by have h9 := flat_bytes_len l; rw [← HA.out] at h9; omega)).mono ?_
        rintro e w7 (⟨ao7, cp7, xs, rfl, hrow7, hg7, hx7, hbx7, hb7⟩ | ⟨p7, c7, rfl, hc7, hst7, hb7⟩)
        · obtain rfl := same_bytes hg7 ⟨HCL.out, HWL.out⟩ (by rw [hbx7, HA.out])
          have HB7 := hidI (fin HB6.out hb7)
          have HR7 := hidI (Rd.of_own hrow7)
          clear hb7 hrow7 hg7 hbx7
          go_wp2_with fail
          refine (sameOps_true (l := xs) HR7.out (Rd.below HL.out HB7.out) (by omega)).mono ?_
          rintro e w11 ⟨rfl, hb11⟩
          have HB11 := hidI (fin HB7.out hb11)
          clear hb11
          go_wp2_with fail
          refine (decode_any _ bs hbs).mono ?_
          rintro e w8 (⟨ao8, cp8, ys, rfl, hrow8, hg8, hy8, hby8, hb8⟩ | ⟨p8, c8, rfl, hc8, -, hb8⟩)
          · have HB8 := hidI (fin HB11.out hb8)
            have HR8 := hidI (Rd.of_own hrow8)
            have HG8 := hidI hg8
            have HBY := hidI hby8
            clear hb8 hrow8 hg8 hby8
            go_wp2_with fail
            refine (encode_any (l := ys) HR8.out HG8.out.2 hy8).mono ?_
            rintro e w9 ⟨rfl, hb9⟩
            rw [encV_yes HG8.out.1, HBY.out]
            have HB9 := hidI (fin HB8.out hb9)
            clear hb9
            go_wp2_with fail
            refine (alive_any _).mono ?_
            rintro e w10 ⟨rfl, hb10⟩
            have HB10 := hidI (fin HB9.out hb10)
            clear hb10
            go_wp2_with fail
            go_ret
            exact ⟨rfl, HB10.out⟩
          · have HB8 := hidI (fin HB11.out hb8)
            clear hb8
            rcases hc8 with rfl | rfl
            · go_wp2_with fail
              refine (alive_any _).mono ?_
              rintro e w10 ⟨rfl, hb10⟩
              have HB10 := hidI (fin HB8.out hb10)
              clear hb10
              go_wp2_with fail
              go_ret
              exact ⟨rfl, HB10.out⟩
            · go_wp2_with fail
              refine (alive_any _).mono ?_
              rintro e w10 ⟨rfl, hb10⟩
              have HB10 := hidI (fin HB8.out hb10)
              clear hb10
              go_wp2_with fail
              go_ret
              exact ⟨rfl, HB10.out⟩
        · exact absurd HA.out.symm (hst7 l ⟨HCL.out, HWL.out⟩ hl2)
      | false =>
        rw [encV_bad hM] at h2
        simp only [Value.tuple.injEq, Array.mk.injEq, List.cons.injEq, Value.string.injEq, Value.int.injEq, true_and, and_true] at h2
        obtain ⟨rfl, rfl⟩ := h2
        rw [encV_bad (l := (l ++ m)) (by rw [List.all_append, hL, hM]; rfl)]
        have HCL := hidI hL
        clear hL
        go_wp2_with fail
        refine (decode_any _ bs hbs).mono ?_
        rintro e w8 (⟨ao8, cp8, ys, rfl, hrow8, hg8, hy8, hby8, hb8⟩ | ⟨p8, c8, rfl, hc8, -, hb8⟩)
        · have HB8 := hidI (fin HB6.out hb8)
          have HR8 := hidI (Rd.of_own hrow8)
          have HG8 := hidI hg8
          have HBY := hidI hby8
          clear hb8 hrow8 hg8 hby8
          go_wp2_with fail
          refine (encode_any (l := ys) HR8.out HG8.out.2 hy8).mono ?_
          rintro e w9 ⟨rfl, hb9⟩
          rw [encV_yes HG8.out.1, HBY.out]
          have HB9 := hidI (fin HB8.out hb9)
          clear hb9
          go_wp2_with fail
          refine (alive_any _).mono ?_
          rintro e w10 ⟨rfl, hb10⟩
          have HB10 := hidI (fin HB9.out hb10)
          clear hb10
          go_wp2_with fail
          go_ret
          exact ⟨rfl, HB10.out⟩
        · have HB8 := hidI (fin HB6.out hb8)
          clear hb8
          rcases hc8 with rfl | rfl
          · go_wp2_with fail
            refine (alive_any _).mono ?_
            rintro e w10 ⟨rfl, hb10⟩
            have HB10 := hidI (fin HB8.out hb10)
            clear hb10
            go_wp2_with fail
            go_ret
            exact ⟨rfl, HB10.out⟩
          · go_wp2_with fail
            refine (alive_any _).mono ?_
            rintro e w10 ⟨rfl, hb10⟩
            have HB10 := hidI (fin HB8.out hb10)
            clear hb10
            go_wp2_with fail
            go_ret
            exact ⟨rfl, HB10.out⟩
    | false =>
      rw [encV_bad hL] at h1
      simp only [Value.tuple.injEq, Array.mk.injEq, List.cons.injEq, Value.string.injEq, Value.int.injEq, true_and, and_true] at h1
      obtain ⟨rfl, rfl⟩ := h1
      rw [encV_bad (l := (l ++ m)) (by rw [List.all_append, hL]; rfl)]
      have HCL := hidI hL
      clear hL
      go_wp2_with fail
      refine (decode_any _ bs hbs).mono ?_
      rintro e w8 (⟨ao8, cp8, ys, rfl, hrow8, hg8, hy8, hby8, hb8⟩ | ⟨p8, c8, rfl, hc8, -, hb8⟩)
      · have HB8 := hidI (fin HB6.out hb8)
        have HR8 := hidI (Rd.of_own hrow8)
        have HG8 := hidI hg8
        have HBY := hidI hby8
        clear hb8 hrow8 hg8 hby8
        go_wp2_with fail
        refine (encode_any (l := ys) HR8.out HG8.out.2 hy8).mono ?_
        rintro e w9 ⟨rfl, hb9⟩
        rw [encV_yes HG8.out.1, HBY.out]
        have HB9 := hidI (fin HB8.out hb9)
        clear hb9
        go_wp2_with fail
        refine (alive_any _).mono ?_
        rintro e w10 ⟨rfl, hb10⟩
        have HB10 := hidI (fin HB9.out hb10)
        clear hb10
        go_wp2_with fail
        go_ret
        exact ⟨rfl, HB10.out⟩
      · have HB8 := hidI (fin HB6.out hb8)
        clear hb8
        rcases hc8 with rfl | rfl
        · go_wp2_with fail
          refine (alive_any _).mono ?_
          rintro e w10 ⟨rfl, hb10⟩
          have HB10 := hidI (fin HB8.out hb10)
          clear hb10
          go_wp2_with fail
          go_ret
          exact ⟨rfl, HB10.out⟩
        · go_wp2_with fail
          refine (alive_any _).mono ?_
          rintro e w10 ⟨rfl, hb10⟩
          have HB10 := hidI (fin HB8.out hb10)
          clear hb10
          go_wp2_with fail
          go_ret
          exact ⟨rfl, HB10.out⟩
end Go.Proofs.Ytbfghkhfiflibaa

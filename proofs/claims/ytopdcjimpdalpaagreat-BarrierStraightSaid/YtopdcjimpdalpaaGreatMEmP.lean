/- Put together by merge.py out of XEmP.lean.tpl, XEmQ.lean.tpl, XEmS.lean.tpl, XEmT.lean.tpl. -/
import Derived.Test.YtopdcjimpdalpaaGreatPlanMake
import Derived.Test.YtopdcjimpdalpaaGreatFlat
import Derived.Test.YtopdcjimpdalpaaGreatMEmF
import Derived.Deep.CutRange
namespace Go.Proofs.YtopdcjimpdalpaaGreat
open Go.RowKit
set_option linter.unusedVariables false
set_option linter.unusedSimpArgs false

section
structure PlaceD where
  a : Int
  b : Int
  c : Int
  d : Int
  e : Int
def encP (p : PlaceD) : List Value := [.int .i64 p.a, .int .i64 p.b, .int .i64 p.c, .int .i64 p.d, .int .i64 p.e]
theorem encP_len : ∀ p, (encP p).length = 5 := fun _ => rfl
def placesOf : List Int → Int × Bool → List PlaceD
  | [], _ => []
  | n :: l, s => ⟨s.1, (tk n s).1, (tk 128 (tk n s)).1, (tk 64 (tk 128 (tk n s))).1, (tk 4096 (tk 64 (tk 128 (tk n s)))).1⟩ :: placesOf l (adv n s)
theorem places_rows : ∀ (l : List Int) s, (placesOf l s).flatMap encP = rows l s
  | [], _ => rfl
  | n :: l, s => by rw [placesOf, List.flatMap_cons, places_rows l]; rfl
theorem places_len : ∀ (l : List Int) s, (placesOf l s).length = l.length
  | [], _ => rfl
  | n :: l, s => by rw [placesOf, List.length_cons, places_len l]; rfl

def mkP (words : Int) (zs : List Int) : List PlaceD := if mkErr words zs = 0 then placesOf zs (s0 words) else []
def mkW (words : Int) (zs : List Int) : Int := if mkErr words zs = 0 then words else 0
def mkS (words : Int) (zs : List Int) : Int := if mkErr words zs = 0 then (fin zs (s0 words)).1 else 0
theorem mkP_len (words : Int) (zs : List Int) : (mkP words zs).length ≤ 4 := by
  unfold mkP
  split
  · rename_i h
    rw [places_len]
    unfold mkErr at h
    split at h
    · omega
    · split at h
      · omega
      · split at h
        · omega
        · omega
  · simp

/-- what Make answers, however it goes -/
def MkU (words : Int) (zs : List Int) (w : World) (e : Ending) (w' : World) : Prop :=
  ∃ ao c, e = .returned (.tuple #[.agg #[.int .i64 (mkW words zs), .slice ao (mkP words zs).length c, .int .i64 (mkS words zs)], .int .i64 (mkErr words zs)]) ∧
    w'.ownsRow w.heap.size 87 5 (.slice ao (mkP words zs).length c) (mkP words zs).length ((mkP words zs).flatMap encP) ∧ Below w.heap.size w w'
theorem MkU.of {words : Int} {zs : List Int} {w : World} {e : Ending} {w' : World} (h : MkPost words zs w e w') : MkU words zs w e w' := by
  obtain ⟨v, rfl, h1, h2, h3⟩ := h
  by_cases h0 : mkErr words zs = 0
  · have ho := h2 h0
    obtain ⟨ao, c, rfl⟩ := ownsRow_shape ho
    have e1 : mkP words zs = placesOf zs (s0 words) := if_pos h0
    have e2 : mkW words zs = words := if_pos h0
    have e3 : mkS words zs = (fin zs (s0 words)).1 := if_pos h0
    refine ⟨ao, c, ?_, ?_, h3⟩
    · rw [e1, e2, e3, places_len, if_pos h0, if_pos h0]
    · rw [e1, places_len, places_rows]; exact ho
  · obtain rfl := h1 h0
    have e1 : mkP words zs = [] := if_neg h0
    have e2 : mkW words zs = 0 := if_neg h0
    have e3 : mkS words zs = 0 := if_neg h0
    refine ⟨none, 0, ?_, ?_, h3⟩
    · rw [e1, e2, e3, if_neg h0, if_neg h0]; rfl
    · rw [e1]; exact World.ownsRow_nil _ _ _ _

set_option maxRecDepth 100000 in
set_option maxHeartbeats 2000000 in
theorem equalP_any {w : World} {ao bo : Option Addr} {ca cb : Nat} {l m : List PlaceD} (ha : RdT encP w 5 (.slice ao l.length ca) l) (hb : RdT encP w 5 (.slice bo m.length cb) m) (h1 : l.length ≤ 9000000000000000000) (h2 : m.length ≤ 9000000000000000000) :
    Calls Tryz.prog 81 #[.slice ao l.length ca, .slice bo m.length cb] w fun e w' => ∃ b, e = .returned (.bool b) ∧ (b = true ↔ l = m) ∧ Below w.heap.size w w' := by
  have HA := hidI ha
  have HB := hidI hb
  have H1 := hidI h1
  clear ha hb h1
  by_cases hlen : l.length = m.length
  · have HLEN := hidI hlen
    have hd : ((l.length : Int) != (m.length : Int)) = false := by rw [hlen]; simp
    have hm2 := H1.out
    go_enter Tryz.func81, Tryz.ntmps81
    rw [← hlen] at HB ⊢
    clear hlen hd
    go_wp2
    go_loopw [13] (fun i wr => ∃ k n : Nat, k ≤ l.length ∧ i = .int .i64 k ∧ Hid (l.take k = m.take k) ∧ wr = w.drewN n) (fun i _ => l.length - (intOf i).toNat)
    case atStart => exact ⟨0, 0, Nat.zero_le _, rfl, hidI (by rw [List.take_zero, List.take_zero]), rfl⟩
    case round =>
      obtain ⟨k, n, hk, rfl, HT, rfl⟩ := hrel
      by_cases hlt : k < l.length
      · obtain ⟨x, hx⟩ := some_at hlt
        obtain ⟨y, hy⟩ := some_at (show k < m.length from by have := HLEN.out; omega)
        obtain ⟨b1, o1, rfl, hs1, hc1⟩ := HA.out.at encP_len hx
        have HB' := HB.out
        obtain ⟨b2, o2, rfl, hs2, hc2⟩ := RdT.at encP_len (show RdT encP w 5 (.slice bo l.length cb) m from HB.out) hy
        have x0 := hc1 0 _ rfl
        have y0 := hc2 0 _ rfl
        have x1 := hc1 1 _ rfl
        have y1 := hc2 1 _ rfl
        have x2 := hc1 2 _ rfl
        have y2 := hc2 2 _ rfl
        have x3 := hc1 3 _ rfl
        have y3 := hc2 3 _ rfl
        have x4 := hc1 4 _ rfl
        have y4 := hc2 4 _ rfl
        simp only [Nat.add_zero] at x0 y0
        have HX := hidI (And.intro hx hy)
        obtain ⟨xa, xb, xc, xd, xe⟩ := x
        obtain ⟨ya, yb, yc, yd, ye⟩ := y
        simp only at x0 x1 x2 x3 x4 y0 y1 y2 y3 y4
        clear hc1 hc2 hx hy hs1 hs2 HB'
        by_cases ha : xa = ya
        rotate_left
        · have hcmp : (xa == ya) = false := by simpa using ha
          have HNE := hidI ha
          clear ha
          go_wp2_with fail
          go_quiet (fail)
          go_wp2_with fail
          go_ret
          refine ⟨false, rfl, ⟨fun h => (by cases h), fun h => ?_⟩, below_drewN (below_drewN (Below.refl _ _) _) _⟩
          subst h
          have h9 := HX.out.1.symm.trans HX.out.2
          simp only [Option.some.injEq, PlaceD.mk.injEq] at h9
          exact absurd h9.1 HNE.out
        subst ha
        by_cases hb : xb = yb
        rotate_left
        · have hcmp : (xb == yb) = false := by simpa using hb
          have HNE := hidI hb
          clear hb
          go_wp2_with fail
          go_quiet (fail)
          go_wp2_with fail
          go_ret
          refine ⟨false, rfl, ⟨fun h => (by cases h), fun h => ?_⟩, below_drewN (below_drewN (Below.refl _ _) _) _⟩
          subst h
          have h9 := HX.out.1.symm.trans HX.out.2
          simp only [Option.some.injEq, PlaceD.mk.injEq] at h9
          exact absurd h9.2.1 HNE.out
        subst hb
        by_cases hc : xc = yc
        rotate_left
        · have hcmp : (xc == yc) = false := by simpa using hc
          have HNE := hidI hc
          clear hc
          go_wp2_with fail
          go_quiet (fail)
          go_wp2_with fail
          go_ret
          refine ⟨false, rfl, ⟨fun h => (by cases h), fun h => ?_⟩, below_drewN (below_drewN (Below.refl _ _) _) _⟩
          subst h
          have h9 := HX.out.1.symm.trans HX.out.2
          simp only [Option.some.injEq, PlaceD.mk.injEq] at h9
          exact absurd h9.2.2.1 HNE.out
        subst hc
        by_cases hd : xd = yd
        rotate_left
        · have hcmp : (xd == yd) = false := by simpa using hd
          have HNE := hidI hd
          clear hd
          go_wp2_with fail
          go_quiet (fail)
          go_wp2_with fail
          go_ret
          refine ⟨false, rfl, ⟨fun h => (by cases h), fun h => ?_⟩, below_drewN (below_drewN (Below.refl _ _) _) _⟩
          subst h
          have h9 := HX.out.1.symm.trans HX.out.2
          simp only [Option.some.injEq, PlaceD.mk.injEq] at h9
          exact absurd h9.2.2.2.1 HNE.out
        subst hd
        by_cases he : xe = ye
        rotate_left
        · have hcmp : (xe == ye) = false := by simpa using he
          have HNE := hidI he
          clear he
          go_wp2_with fail
          go_quiet (fail)
          go_wp2_with fail
          go_ret
          refine ⟨false, rfl, ⟨fun h => (by cases h), fun h => ?_⟩, below_drewN (below_drewN (Below.refl _ _) _) _⟩
          subst h
          have h9 := HX.out.1.symm.trans HX.out.2
          simp only [Option.some.injEq, PlaceD.mk.injEq] at h9
          exact absurd h9.2.2.2.2 HNE.out
        subst he
        go_wp2_with fail
        go_quiet (fail)
        go_wp2_with fail
        exact ⟨⟨k + 1, _, by omega, by go_num, hidI (by rw [take_snoc HX.out.1, take_snoc HX.out.2, HT.out]), rfl⟩, by simp [intOf]; omega⟩
      · obtain rfl : k = l.length := by omega
        go_wp2
        go_ret
        refine ⟨true, rfl, ⟨fun _ => ?_, fun _ => rfl⟩, below_drewN (Below.refl _ _) n⟩
        have h9 := HT.out
        rw [List.take_length, HLEN.out, List.take_length] at h9
        exact h9
  · have hd : ((l.length : Int) != (m.length : Int)) = true := by simp only [bne_iff_ne, ne_eq]; omega
    have HLEN := hidI hlen
    clear hlen
    go_enter Tryz.func81, Tryz.ntmps81
    go_wp2_with fail
    go_ret
    exact ⟨false, rfl, ⟨fun h => (by cases h), fun h => absurd (by rw [h]) HLEN.out⟩, Below.refl _ _⟩

set_option maxRecDepth 100000 in
set_option maxHeartbeats 2000000 in
theorem sameP_any {w : World} {ao bo : Option Addr} {ca cb : Nat} {l m : List PlaceD} (ha : RdT encP w 5 (.slice ao l.length ca) l) (hb : RdT encP w 5 (.slice bo m.length cb) m) (h1 : l.length ≤ 9000000000000000000) (h2 : m.length ≤ 9000000000000000000) :
    Calls Tryz.prog 59 #[.slice ao l.length ca, .slice bo m.length cb] w fun e w' => ∃ b, e = .returned (.bool b) ∧ (b = true ↔ l = m) ∧ Below w.heap.size w w' := by
  have HA := hidI ha
  have HB := hidI hb
  have H1 := hidI h1
  clear ha hb h1
  by_cases hlen : l.length = m.length
  · have HLEN := hidI hlen
    have hd : ((l.length : Int) != (m.length : Int)) = false := by rw [hlen]; simp
    have hm2 := H1.out
    go_enter Tryz.func59, Tryz.ntmps59
    rw [← hlen] at HB ⊢
    clear hlen hd
    go_wp2
    go_loopw [13] (fun i wr => ∃ k n : Nat, k ≤ l.length ∧ i = .int .i64 k ∧ Hid (l.take k = m.take k) ∧ wr = w.drewN n) (fun i _ => l.length - (intOf i).toNat)
    case atStart => exact ⟨0, 0, Nat.zero_le _, rfl, hidI (by rw [List.take_zero, List.take_zero]), rfl⟩
    case round =>
      obtain ⟨k, n, hk, rfl, HT, rfl⟩ := hrel
      by_cases hlt : k < l.length
      · obtain ⟨x, hx⟩ := some_at hlt
        obtain ⟨y, hy⟩ := some_at (show k < m.length from by have := HLEN.out; omega)
        obtain ⟨b1, o1, rfl, hs1, hc1⟩ := HA.out.at encP_len hx
        have HB' := HB.out
        obtain ⟨b2, o2, rfl, hs2, hc2⟩ := RdT.at encP_len (show RdT encP w 5 (.slice bo l.length cb) m from HB.out) hy
        have x0 := hc1 0 _ rfl
        have y0 := hc2 0 _ rfl
        have x1 := hc1 1 _ rfl
        have y1 := hc2 1 _ rfl
        have x2 := hc1 2 _ rfl
        have y2 := hc2 2 _ rfl
        have x3 := hc1 3 _ rfl
        have y3 := hc2 3 _ rfl
        have x4 := hc1 4 _ rfl
        have y4 := hc2 4 _ rfl
        simp only [Nat.add_zero] at x0 y0
        have HX := hidI (And.intro hx hy)
        obtain ⟨xa, xb, xc, xd, xe⟩ := x
        obtain ⟨ya, yb, yc, yd, ye⟩ := y
        simp only at x0 x1 x2 x3 x4 y0 y1 y2 y3 y4
        clear hc1 hc2 hx hy hs1 hs2 HB'
        by_cases ha : xa = ya
        rotate_left
        · have hcmp : (xa == ya) = false := by simpa using ha
          have HNE := hidI ha
          clear ha
          go_wp2_with fail
          go_quiet (fail)
          go_wp2_with fail
          go_ret
          refine ⟨false, rfl, ⟨fun h => (by cases h), fun h => ?_⟩, below_drewN (below_drewN (Below.refl _ _) _) _⟩
          subst h
          have h9 := HX.out.1.symm.trans HX.out.2
          simp only [Option.some.injEq, PlaceD.mk.injEq] at h9
          exact absurd h9.1 HNE.out
        subst ha
        by_cases hb : xb = yb
        rotate_left
        · have hcmp : (xb == yb) = false := by simpa using hb
          have HNE := hidI hb
          clear hb
          go_wp2_with fail
          go_quiet (fail)
          go_wp2_with fail
          go_ret
          refine ⟨false, rfl, ⟨fun h => (by cases h), fun h => ?_⟩, below_drewN (below_drewN (Below.refl _ _) _) _⟩
          subst h
          have h9 := HX.out.1.symm.trans HX.out.2
          simp only [Option.some.injEq, PlaceD.mk.injEq] at h9
          exact absurd h9.2.1 HNE.out
        subst hb
        by_cases hc : xc = yc
        rotate_left
        · have hcmp : (xc == yc) = false := by simpa using hc
          have HNE := hidI hc
          clear hc
          go_wp2_with fail
          go_quiet (fail)
          go_wp2_with fail
          go_ret
          refine ⟨false, rfl, ⟨fun h => (by cases h), fun h => ?_⟩, below_drewN (below_drewN (Below.refl _ _) _) _⟩
          subst h
          have h9 := HX.out.1.symm.trans HX.out.2
          simp only [Option.some.injEq, PlaceD.mk.injEq] at h9
          exact absurd h9.2.2.1 HNE.out
        subst hc
        by_cases hd : xd = yd
        rotate_left
        · have hcmp : (xd == yd) = false := by simpa using hd
          have HNE := hidI hd
          clear hd
          go_wp2_with fail
          go_quiet (fail)
          go_wp2_with fail
          go_ret
          refine ⟨false, rfl, ⟨fun h => (by cases h), fun h => ?_⟩, below_drewN (below_drewN (Below.refl _ _) _) _⟩
          subst h
          have h9 := HX.out.1.symm.trans HX.out.2
          simp only [Option.some.injEq, PlaceD.mk.injEq] at h9
          exact absurd h9.2.2.2.1 HNE.out
        subst hd
        by_cases he : xe = ye
        rotate_left
        · have hcmp : (xe == ye) = false := by simpa using he
          have HNE := hidI he
          clear he
          go_wp2_with fail
          go_quiet (fail)
          go_wp2_with fail
          go_ret
          refine ⟨false, rfl, ⟨fun h => (by cases h), fun h => ?_⟩, below_drewN (below_drewN (Below.refl _ _) _) _⟩
          subst h
          have h9 := HX.out.1.symm.trans HX.out.2
          simp only [Option.some.injEq, PlaceD.mk.injEq] at h9
          exact absurd h9.2.2.2.2 HNE.out
        subst he
        go_wp2_with fail
        go_quiet (fail)
        go_wp2_with fail
        exact ⟨⟨k + 1, _, by omega, by go_num, hidI (by rw [take_snoc HX.out.1, take_snoc HX.out.2, HT.out]), rfl⟩, by simp [intOf]; omega⟩
      · obtain rfl : k = l.length := by omega
        go_wp2
        go_ret
        refine ⟨true, rfl, ⟨fun _ => ?_, fun _ => rfl⟩, below_drewN (Below.refl _ _) n⟩
        have h9 := HT.out
        rw [List.take_length, HLEN.out, List.take_length] at h9
        exact h9
  · have hd : ((l.length : Int) != (m.length : Int)) = true := by simp only [bne_iff_ne, ne_eq]; omega
    have HLEN := hidI hlen
    clear hlen
    go_enter Tryz.func59, Tryz.ntmps59
    go_wp2_with fail
    go_ret
    exact ⟨false, rfl, ⟨fun h => (by cases h), fun h => absurd (by rw [h]) HLEN.out⟩, Below.refl _ _⟩
end

section
variable {w w' : World}

/-- may a row's thing be? -/
def okTx (words : Int) (o : Tx) : Bool := (decide (o.kind = 2) || decide (o.kind = 3)) && decide (1 ≤ o.at_) && decide (o.at_ ≤ words)

set_option maxHeartbeats 2000000 in
theorem badtx_any {bp : Nat} {words size : Int} {tv : Value} (h : w.heap[bp]? = some (.cells #[.int .i64 words, tv, .int .i64 size] 46 (0, 0))) (o : Tx) :
    Calls Tryz.prog 53 #[.agg #[.int .i64 o.th, .int .u8 o.kind, .int .i64 o.at_, .int .i64 o.v], .pointer (some ⟨bp, 0, none⟩)] w fun e w' => e = .returned (.bool (!okTx words o)) ∧ Below w.heap.size w w' := by
  obtain ⟨th, kind, a, v⟩ := o
  have hb := lt_of_block h
  have x0 : w.cell? ⟨bp, 0, none⟩ = some (.int .i64 words) := cell_of_block h rfl
  have HBOX := hidI ((Below.refl w.heap.size w).alloc (Nat.le_refl _) (.cells #[.int .i64 th, .int .u8 kind, .int .i64 a, .int .i64 v] 96))
  have x1 : (w.alloc (.cells #[.int .i64 th, .int .u8 kind, .int .i64 a, .int .i64 v] 96)).cell? ⟨bp, 0, none⟩ = some (.int .i64 words) := by rw [World.cell?_alloc_lt _ _ _ hb]; exact x0
  clear h
  by_cases hk : kind = 2 ∨ kind = 3
  · by_cases h1 : a < 1
    · have HE := hidI (show okTx words ⟨th, kind, a, v⟩ = false from by simp [okTx]; omega)
      have q1 : decide (a < 1) = true := decide_eq_true h1
      rcases hk with rfl | rfl
      all_goals (
        go_enter Tryz.func53, Tryz.ntmps53
        go_wp2_with fail
        go_ret
        exact ⟨by rw [HE.out]; rfl, HBOX.out⟩)
    · have q1 : decide (a < 1) = false := decide_eq_false h1
      by_cases h2 : words < a
      · have HE := hidI (show okTx words ⟨th, kind, a, v⟩ = false from by simp [okTx]; omega)
        have q2 : decide (words < a) = true := decide_eq_true h2
        rcases hk with rfl | rfl
        all_goals (
          go_enter Tryz.func53, Tryz.ntmps53
          go_wp2_with fail
          go_ret
          exact ⟨by rw [HE.out]; rfl, HBOX.out⟩)
      · have HE := hidI (show okTx words ⟨th, kind, a, v⟩ = true from by simp [okTx]; omega)
        have q2 : decide (words < a) = false := decide_eq_false h2
        rcases hk with rfl | rfl
        all_goals (
          go_enter Tryz.func53, Tryz.ntmps53
          go_wp2_with fail
          go_ret
          exact ⟨by rw [HE.out]; rfl, HBOX.out⟩)
  · have HE := hidI (show okTx words ⟨th, kind, a, v⟩ = false from by simp [okTx]; omega)
    have q1 : (kind != 2) = true := by simp; omega
    have q2 : (kind != 3) = true := by simp; omega
    clear hk
    go_enter Tryz.func53, Tryz.ntmps53
    go_wp2_with fail
    go_ret
    exact ⟨by rw [HE.out]; rfl, HBOX.out⟩

set_option maxHeartbeats 2000000 in
theorem indextx_any {bp : Nat} {words size : Int} {tv : Value} (hp : w.heap[bp]? = some (.cells #[.int .i64 words, tv, .int .i64 size] 46 (0, 0))) {ao : Option Addr} {cap : Nat} {l : List Tx} (h : RdT encTxD w 4 (.slice ao l.length cap) l) (hl : l.length ≤ 262144) :
    Calls Tryz.prog 82 #[.slice ao l.length cap, .func (.func 53) #[] #[.pointer (some ⟨bp, 0, none⟩)]] w fun e w' => (∃ z : Int, e = .returned (.int .i64 z) ∧ (0 ≤ z ↔ ∃ o ∈ l, okTx words o = false)) ∧ Below w.heap.size w w' := by
  have H := hidI h
  have HL := hidI hl
  have HP := hidI hp
  clear h hl hp
  go_enter Tryz.func82, Tryz.ntmps82
  go_wp2_with fail
  go_loopw [8] (fun i w' => ∃ k : Nat, k ≤ l.length ∧ i = .int .i64 (k : Int) ∧ Hid (Below w.heap.size w w' ∧ ∀ j (o : Tx), j < k → l[j]? = some o → okTx words o = true)) (fun i _ => ((l.length : Int) - intOf i).toNat)
  case atStart => exact ⟨0, by omega, rfl, ⟨Below.refl _ _, fun j o hj => absurd hj (by omega)⟩⟩
  case round =>
    obtain ⟨k, hk, rfl, HR⟩ := hrel
    by_cases hlt : k < l.length
    · obtain ⟨⟨th, ki, at_, v⟩, ho⟩ := some_at hlt
      obtain ⟨cb, co, rfl, hcb, hcc⟩ := RdT.at encTxD_len (Rd.below H.out HR.out.1) ho
      have i0 := hcc 0 _ rfl
      have i1 := hcc 1 _ rfl
      have i2 := hcc 2 _ rfl
      have i3 := hcc 3 _ rfl
      rw [Nat.add_zero] at i0
      have HO := hidI ho
      clear ho hcc hcb
      go_wp2_with fail
      refine (badtx_any (blk HR.out.1 HP.out) ⟨th, ki, at_, v⟩).mono ?_
      rintro e w2 ⟨rfl, hb2⟩
      have HB2 := hidI (HR.out.1.trans (hb2.mono HR.out.1.size))
      clear hb2 i0 i1 i2 i3
      cases hc : okTx words ⟨th, ki, at_, v⟩ with
      | false =>
        have HC := hidI hc
        clear hc
        go_wp2_with fail
        go_ret
        exact ⟨⟨_, rfl, ⟨fun _ => ⟨_, List.mem_of_getElem? HO.out, HC.out⟩, fun _ => by omega⟩⟩, HB2.out⟩
      | true =>
        have HC := hidI hc
        have hkl : k < 262144 := Nat.lt_of_lt_of_le hlt HL.out
        clear hc
        go_wp2_with fail
        refine ⟨⟨k + 1, by omega, by go_num, ⟨HB2.out, fun j o hj ho => ?_⟩⟩, by simp [intOf]; omega⟩
        by_cases e : j = k
        · subst e
          rw [HO.out] at ho
          cases ho
          exact HC.out
        · exact HR.out.2 j o (by omega) ho
    · obtain rfl : k = l.length := by omega
      go_wp2_with fail
      go_ret
      refine ⟨⟨-1, rfl, ⟨fun h => absurd h (by decide), fun ⟨o, ho, hc⟩ => ?_⟩⟩, HR.out.1⟩
      obtain ⟨j, hj⟩ := List.getElem?_of_mem ho
      rw [HR.out.2 j o (List.getElem?_eq_some_iff.1 hj).1 hj] at hc
      cases hc

set_option maxHeartbeats 1000000 in
theorem containstx_any {bp : Nat} {words size : Int} {tv : Value} (hp : w.heap[bp]? = some (.cells #[.int .i64 words, tv, .int .i64 size] 46 (0, 0))) {ao : Option Addr} {cap : Nat} {l : List Tx} (h : RdT encTxD w 4 (.slice ao l.length cap) l) (hl : l.length ≤ 262144) :
    Calls Tryz.prog 52 #[.slice ao l.length cap, .func (.func 53) #[] #[.pointer (some ⟨bp, 0, none⟩)]] w fun e w' => e = .returned (.bool (!(l.all (okTx words)))) ∧ Below w.heap.size w w' := by
  have H := hidI h
  have HL := hidI hl
  have HP := hidI hp
  clear h hl hp
  go_enter Tryz.func52, Tryz.ntmps52
  go_wp2_with fail
  refine (indextx_any HP.out H.out HL.out).mono ?_
  rintro e w1 ⟨⟨z, rfl, hz⟩, hb⟩
  have HZ := hidI hz
  have HB := hidI hb
  clear hz hb
  by_cases h0 : 0 ≤ z
  · have hd : decide (0 ≤ z) = true := decide_eq_true h0
    go_wp2_with fail
    go_ret
    refine ⟨?_, HB.out⟩
    obtain ⟨o, ho, hc⟩ := HZ.out.1 h0
    rw [show l.all (okTx words) = false from by rw [List.all_eq_false]; exact ⟨o, ho, by simp [hc]⟩]
    rfl
  · have hd : decide (0 ≤ z) = false := decide_eq_false h0
    go_wp2_with fail
    go_ret
    refine ⟨?_, HB.out⟩
    rw [show l.all (okTx words) = true from by
      rw [List.all_eq_true]
      intro o ho
      cases hc : okTx words o with
      | true => rfl
      | false => exact absurd (HZ.out.2 ⟨o, ho, hc⟩) (by omega)]
    rfl

/-! ### planned -/
def frameOf (p : PlaceD) : Int := wrap64 (p.b - p.a)
def framesOf (ps : List PlaceD) : List Int := ps.map frameOf
/-- a plan that Make makes, its frames great enough -/
def Planned (words size : Int) (ps : List PlaceD) : Prop := (∀ p ∈ ps, 32 ≤ frameOf p) ∧ mkErr words (framesOf ps) = 0 ∧ mkS words (framesOf ps) = size ∧ mkP words (framesOf ps) = ps
theorem one_emint (x : Int) : ∀ u ∈ [Value.int .i64 x], u.oneCell' = true := by intro u hu; simp at hu; subst hu; rfl
theorem ints_of {v : Value} {n : Nat} {zs : List Int} (h : Rd w 1 v n (zs.map (Value.int .i64))) (hn : n = zs.length) : Ints w v zs := by
  obtain ⟨h1, ao, cap, rfl, h2, h3⟩ := h
  subst hn
  refine ⟨ao, cap, rfl, h2, fun i hi => ?_⟩
  obtain ⟨b, off, rfl, hb, hc⟩ := h3 (by omega)
  exact ⟨b, off, rfl, hb, hc i _ (by simp [nth, hi])⟩

/-- what planned answers -/
def PlannedPost (words size : Int) (ps : List PlaceD) (w : World) (e : Ending) (w' : World) : Prop := ∃ b, e = .returned (.bool b) ∧ (b = true ↔ Planned words size ps) ∧ Below w.heap.size w w'

set_option maxRecDepth 100000 in
set_option maxHeartbeats 4000000 in
theorem planned_any {tao : Option Addr} {tcap : Nat} {ps : List PlaceD} (h : RdT encP w 5 (.slice tao ps.length tcap) ps) (hl : ps.length ≤ 262144) (words size : Int) :
    Calls Tryz.prog 51 #[.agg #[.int .i64 words, .slice tao ps.length tcap, .int .i64 size]] w (PlannedPost words size ps w) := by
  have H := hidI h
  have HL := hidI hl
  clear h hl
  obtain ⟨i0, hi, hz0, hz1, hz2⟩ := info_parts emIntInfo
  go_enter Tryz.func51, Tryz.ntmps51
  go_wp2_with fail
  have HB0 := hidI ((Below.refl w.heap.size w).alloc (Nat.le_refl _) (.cells #[.int .i64 words, .slice tao ps.length tcap, .int .i64 size] 46))
  have HP0 := hidI (block_new w (.cells #[.int .i64 words, .slice tao ps.length tcap, .int .i64 size] 46))
  have HS0 := hidI (show w.heap.size + 1 ≤ (w.alloc (.cells #[.int .i64 words, .slice tao ps.length tcap, .int .i64 size] 46)).heap.size from by rw [World.size_alloc]; omega)
  generalize w.alloc (.cells #[.int .i64 words, .slice tao ps.length tcap, .int .i64 size] 46) = w0 at HB0 HP0 HS0 ⊢
  have hpl := HL.out
  obtain ⟨bp, hbp⟩ : ∃ b, b = w.heap.size := ⟨_, rfl⟩
  have HBP := hidI hbp
  rw [← hbp] at HP0 ⊢
  clear hbp
  go_loopw [3, 11] (fun v i wr => ∃ (j : Nat) (ao : Option Addr) (cp : Nat), j ≤ ps.length ∧ i = .int .i64 (j : Int) ∧ v = .slice ao j cp ∧ Hid (wr.ownsRow (w.heap.size + 1) 3 1 (.slice ao j cp) j ((framesOf (ps.take j)).map (Value.int .i64))) ∧ Hid (∀ p ∈ ps.take j, 32 ≤ frameOf p) ∧ Hid (Below w.heap.size w wr) ∧ Hid (wr.heap[bp]? = some (.cells #[.int .i64 words, .slice tao ps.length tcap, .int .i64 size] 46 (0, 0))) ∧ Hid (w.heap.size + 1 ≤ wr.heap.size)) (fun _ i _ => ((ps.length : Int) - intOf i).toNat)
  case atStart => exact ⟨0, none, 0, Nat.zero_le _, rfl, rfl, hidI (World.ownsRow_nil _ _ _ _), hidI (fun p hp => by simp at hp), HB0, HP0, HS0⟩
  case round =>
    obtain ⟨j, ao, cp, hj, rfl, rfl, HO, HG, HB, HP, HSZ⟩ := hrel
    clear HB0 HP0 HS0
    have hpl := HL.out
    have p0 : wr.cell? ⟨bp, 0, none⟩ = some (.int .i64 words) := cell_of_block HP.out rfl
    have p2 : wr.cell? ⟨bp, 2, none⟩ = some (.int .i64 size) := cell_of_block HP.out rfl
    have p1 : wr.cell? ⟨bp, 1, none⟩ = some (.slice tao ps.length tcap) := cell_of_block HP.out rfl
    have hbpl := lt_of_block HP.out
    by_cases hlt : j < ps.length
    · obtain ⟨⟨xa, xb, xc, xd, xe⟩, hx⟩ := some_at hlt
      obtain ⟨g, off, rfl, hg, hc⟩ := RdT.at encP_len (Rd.below H.out HB.out) hx
      have d0 := hc 0 _ rfl
      have d1 := hc 1 _ rfl
      have d2 := hc 2 _ rfl
      have d3 := hc 3 _ rfl
      have d4 := hc 4 _ rfl
      simp only [Nat.add_zero] at d0
      have HX := hidI hx
      have HTK := hidI (take_snoc hx)
      clear hx hc
      by_cases h32 : wrap64 (xb - xa) < 32
      · have q1 : decide (wrap64 (xb - xa) < 32) = true := decide_eq_true h32
        have HNO := hidI (show ¬ Planned words size ps from fun hp => by
          have := hp.1 _ (List.mem_of_getElem? HX.out)
          unfold frameOf at this
          simp only at this
          omega)
        have HBR := hidI (HB.out.alloc HB.out.size (.cells #[.int .i64 xa, .int .i64 xb, .int .i64 xc, .int .i64 xd, .int .i64 xe] 87))
        clear h32
        go_wp2_with fail
        go_ret
        exact ⟨false, rfl, ⟨fun h => (by cases h), fun h => absurd h HNO.out⟩, HBR.out⟩
      · have q1 : decide (wrap64 (xb - xa) < 32) = false := decide_eq_false h32
        have H32 := hidI h32
        clear h32
        have HJ := hidI hlt
        go_wp2_with (at_builtin; refine Hid.out ?_)
        refine wpList_append_d _ rfl _ _ 72 rfl (w.heap.size + 1) 3 i0 _ 1 8 Tryz.underlying72 hi hz0 hz1 hz2 rfl (by decide) (.slice ao j cp) j _ (by simp [Act.eval]) (ownsRow_chg HO.out (((Chg.refl (fun _ => False) wr).alloc _).alloc _) (fun _ _ => id)) ⟨wr.heap.size + 1, 0, none⟩ 1 1 [.int .i64 (wrap64 (xb - xa))] (by simp [Act.eval]) rfl ?c1 ?c2 ?c3 ?c4 ?c5 ?_
        case c1 => exact news_at (block_new2 _ _ _)
        case c2 => exact one_emint _
        case c3 => have := HL.out; have := HJ.out; unfold maxLen; omega
        case c4 => have := HL.out; have := HJ.out; omega
        case c5 => have := HSZ.out; simp; omega
        intro ao5 cp5 w5 hown hfrom hgrown
        have hc5 : Chg (fun k => w.heap.size + 1 ≤ k) wr w5 := ((((Chg.refl (fun k => w.heap.size + 1 ≤ k) wr)).alloc _).alloc _).grown hgrown (fun k hk => .inl (HO.out.lt k hk).1)
        have HB5 := hidI (hc5.below HB.out HB.out.size (fun k hk => by omega))
        have HP5 := hidI (chgblk hc5 HP.out (by have := HBP.out; omega))
        have HSZ5 := hidI (show w.heap.size + 1 ≤ w5.heap.size from by have := hc5.size; have := HSZ.out; omega)
        have HO5 := hidI (show w5.ownsRow (w.heap.size + 1) 3 1 (.slice ao5 (j + 1) cp5) (j + 1) ((framesOf (ps.take (j + 1))).map (Value.int .i64)) from by rw [HTK.out]; unfold framesOf; rw [List.map_append, List.map_append]; exact hown)
        have HG5 := hidI (show ∀ p ∈ ps.take (j + 1), 32 ≤ frameOf p from fun p hp => by
          rw [HTK.out] at hp
          rcases List.mem_append.1 hp with hp | hp
          · exact HG.out p hp
          · simp at hp; subst hp
            have := H32.out
            unfold frameOf; simp only; omega)
        clear hown hfrom hgrown hc5 p0 p1 p2 d0 d1 d2 d3 d4
        go_wp2_with fail
        exact ⟨⟨j + 1, ao5, cp5, by omega, by go_num, rfl, HO5, HG5, HB5, HP5, HSZ5⟩, by simp [intOf]; omega⟩
    · obtain rfl : j = ps.length := by omega
      have ho := HO.out
      have hg := HG.out
      rw [List.take_length] at ho hg
      have HG' := hidI hg
      have hfl : (framesOf ps).length = ps.length := by unfold framesOf; rw [List.length_map]
      have HFL := hidI hfl
      have HINTS := hidI (show Ints wr (.slice ao (framesOf ps).length cp) (framesOf ps) from by have h9 := Rd.of_own ho; rw [hfl]; exact ints_of h9 hfl.symm)
      rw [hfl] at HINTS
      clear ho hg hfl
      go_wp2_with fail
      refine ((show Calls Tryz.prog 18 #[.int .i64 words, .slice ao ps.length cp] wr (MkPost words (framesOf ps) wr) from by have h9 := make_any words ao (framesOf ps) cp wr (by rw [HFL.out]; exact HINTS.out) (by rw [HFL.out]; omega); rw [HFL.out] at h9; exact h9)).mono ?_
      intro e w2 hm
      obtain ⟨mo, mc, rfl, hmo, hb2⟩ := MkU.of hm
      have HMO := hidI hmo
      have HB2 := hidI (HB.out.trans (hb2.mono HB.out.size))
      have HP2 := hidI (blk hb2 HP.out)
      have HR2 := hidI (Rd.below H.out HB2.out)
      have HML := hidI (mkP_len words (framesOf ps))
      clear hm hmo hb2 p0 p1 p2 hbpl
      have p0 : w2.cell? ⟨bp, 0, none⟩ = some (.int .i64 words) := cell_of_block HP2.out rfl
      have p1 : w2.cell? ⟨bp, 1, none⟩ = some (.slice tao ps.length tcap) := cell_of_block HP2.out rfl
      have p2 : w2.cell? ⟨bp, 2, none⟩ = some (.int .i64 size) := cell_of_block HP2.out rfl
      have hbpl := lt_of_block HP2.out
      obtain ⟨me, hme⟩ : ∃ x, x = mkErr words (framesOf ps) := ⟨_, rfl⟩
      obtain ⟨ms, hms⟩ : ∃ x, x = mkS words (framesOf ps) := ⟨_, rfl⟩
      obtain ⟨mw, hmw⟩ : ∃ x, x = mkW words (framesOf ps) := ⟨_, rfl⟩
      obtain ⟨mp, hmp⟩ : ∃ x, x = mkP words (framesOf ps) := ⟨_, rfl⟩
      rw [← hmp] at HMO HML
      rw [← hme, ← hms, ← hmw, ← hmp]
      have HME := hidI hme
      have HMS := hidI hms
      have HMP := hidI hmp
      clear hme hms hmw hmp
      have hal : ∀ o : Obj, Below w.heap.size w (w2.alloc o) := fun o => HB2.out.alloc HB2.out.size o
      have HAL := hidI hal
      clear hal
      by_cases he : me = 0
      · subst he
        by_cases hs : ms = size
        · have hd : (ms == size) = true := by simpa using hs
          have HS := hidI hs
          clear hs
          go_wp2_with fail
          refine (equalP_any (l := mp) (m := ps) (Rd.alloc (Rd.of_own HMO.out) _) (Rd.alloc HR2.out _) (by have := HML.out; omega) (by have := HL.out; omega)).mono ?_
          rintro e w3 ⟨b, rfl, hbe, hb3⟩
          have HBE := hidI hbe
          have HB3 := hidI ((HAL.out _).trans (hb3.mono (HAL.out _).size))
          clear hbe hb3
          go_wp2_with fail
          go_ret
          refine ⟨b, rfl, ?_, HB3.out⟩
          rw [HBE.out]
          constructor
          · intro h
            exact ⟨HG'.out, HME.out.symm, by rw [← HMS.out]; exact HS.out, by rw [← HMP.out]; exact h⟩
          · intro h
            rw [HMP.out]; exact h.2.2.2
        · have hd : (ms == size) = false := by simpa using hs
          have HS := hidI hs
          clear hs
          go_wp2_with fail
          go_ret
          exact ⟨false, rfl, ⟨fun h => (by cases h), fun h => absurd (by rw [HMS.out]; exact h.2.2.1) HS.out⟩, HAL.out _⟩
      · have hd : (me == 0) = false := by simpa using he
        have HE := hidI he
        clear he
        go_wp2_with fail
        go_ret
        exact ⟨false, rfl, ⟨fun h => (by cases h), fun h => absurd (by rw [HME.out]; exact h.2.1) HE.out⟩, HAL.out _⟩
end

section
variable {w w' : World}

/-! ### plain -/
/-- what is known of a thread's transactions, by its place in the plan -/
def txOf (words size : Int) (p : PlaceD) (th : Int) : TxC := ⟨words, size, p.a, p.b, p.c, p.d, p.e, p.a + 1, th, p.a⟩
theorem tk_over {n : Int} {s : Int × Bool} (h : s.2 = true) : (tk n s).2 = true := by unfold tk; split <;> simp [h]
theorem fin_over (zs : List Int) : ∀ {s : Int × Bool}, s.2 = true → (fin zs s).2 = true := by
  induction zs with
  | nil => intro s h; exact h
  | cons n l ih => intro s h; exact ih (tk_over (tk_over (tk_over (tk_over h))))
/-- numbers that lie in memory -/
def InMem (x : Int) : Prop := 1 ≤ x ∧ x ≤ 262144
theorem places_in (zs : List Int) (hz : ∀ n ∈ zs, 0 ≤ n) : ∀ {s : Int × Bool}, InMem s.1 → ∀ q ∈ placesOf zs s, InMem q.a ∧ InMem q.b ∧ InMem q.c ∧ InMem q.d ∧ InMem q.e := by
  induction zs with
  | nil => intro s _ q hq; cases hq
  | cons n l ih =>
    intro s hs q hq
    have h1 := tk_ok (hz n List.mem_cons_self) hs
    have h2 := tk_ok (n := 128) (by decide) h1
    have h3 := tk_ok (n := 64) (by decide) h2
    have h4 := tk_ok (n := 4096) (by decide) h3
    rcases List.mem_cons.1 hq with rfl | hq
    · exact ⟨hs, h1, h2, h3, h4⟩
    · exact ih (fun m hm => hz m (List.mem_cons_of_mem _ hm)) h4 q hq
theorem mkErr_words {words : Int} {zs : List Int} (h : mkErr words zs = 0) : 0 ≤ words ∧ words ≤ 262144 := by
  have h0 : ¬ words < 0 := fun q => by rw [mkErr, if_pos q] at h; cases h
  refine ⟨by omega, ?_⟩
  rcases (by omega : 262144 < words ∨ words ≤ 262144) with q | q
  · exfalso
    unfold mkErr at h
    rw [if_neg h0] at h
    split at h
    · cases h
    · split at h
      · cases h
      · have : (fin zs (s0 words)).2 = true := fin_over zs (tk_over (by unfold tk; rw [if_pos (by simp only; omega)]))
        rw [if_pos this] at h
        cases h
  · exact q
theorem Planned.places {words size : Int} {ps : List PlaceD} (h : Planned words size ps) : ps = placesOf (framesOf ps) (s0 words) := by
  have := h.2.2.2
  unfold mkP at this
  rw [if_pos h.2.1] at this
  exact this.symm
theorem Planned.len {words size : Int} {ps : List PlaceD} (h : Planned words size ps) : ps.length ≤ 4 := by
  have := mkP_len words (framesOf ps)
  rw [h.2.2.2] at this
  exact this
theorem Planned.mem {words size : Int} {ps : List PlaceD} (h : Planned words size ps) : ∀ q ∈ ps, (InMem q.a ∧ InMem q.b ∧ InMem q.c ∧ InMem q.d ∧ InMem q.e) ∧ q.a + 32 ≤ q.b := by
  intro q hq
  have hw := mkErr_words h.2.1
  have hq' := hq
  rw [h.places] at hq'
  have h1 := places_in (framesOf ps) (fun n hn => by
    obtain ⟨p, hp, rfl⟩ := List.mem_map.1 hn
    have := h.1 p hp
    omega) (s := s0 words) (tk_ok (by decide) (tk_ok hw.1 ⟨by decide, by decide⟩)) q hq'
  refine ⟨h1, ?_⟩
  have h2 := h.1 q hq
  unfold frameOf wrap64 at h2
  obtain ⟨⟨a1, a2⟩, ⟨b1, b2⟩, -⟩ := h1
  omega
theorem Planned.ok {words size : Int} {ps : List PlaceD} (h : Planned words size ps) {k : Nat} {p : PlaceD} (hp : ps[k]? = some p) : TxOk (txOf words size p k) := by
  obtain ⟨⟨⟨a1, a2⟩, ⟨b1, b2⟩, ⟨c1, c2⟩, ⟨d1, d2⟩, -⟩, hf⟩ := h.mem p (List.mem_of_getElem? hp)
  have hw := mkErr_words h.2.1
  have hk := (List.getElem?_eq_some_iff.1 hp).1
  have hl := h.len
  exact ⟨hw, ⟨by simp only [txOf]; omega, b2⟩, ⟨by simp only [txOf]; omega, c2⟩, ⟨by simp only [txOf]; omega, d2⟩, ⟨by simp only [txOf]; omega, by simp only [txOf]; omega⟩, ⟨by simp only [txOf]; omega, by simp only [txOf]; omega⟩, ⟨by simp only [txOf]; omega, a2⟩⟩

/-- rows as they lie: each row's slice, and what it reads -/
def encR (p : Value × List Tx) : List Value := [p.1]
theorem encR_len : ∀ p, (encR p).length = 1 := fun _ => rfl
structure RowsAt (w : World) (v : Value) (rs : List (Value × List Tx)) : Prop where
  rows : RdT encR w 1 v rs
  each : ∀ p ∈ rs, RdT encTxD w 4 p.1 p.2
theorem RowsAt.below {v : Value} {rs : List (Value × List Tx)} (h : RowsAt w v rs) (hb : Below w.heap.size w w') : RowsAt w' v rs := ⟨Rd.below h.rows hb, fun p hp => Rd.below (h.each p hp) hb⟩
/-- how many things are in them, each row counting one besides -/
def txTotal (rs : List (Value × List Tx)) : Nat := (rs.map fun p => p.2.length + 1).sum
theorem txTotal_step {rs : List (Value × List Tx)} {k : Nat} {p : Value × List Tx} (h : rs[k]? = some p) : txTotal (rs.take (k + 1)) = txTotal (rs.take k) + (p.2.length + 1) := by
  unfold txTotal
  rw [take_snoc h]
  simp
theorem txTotal_app (a b : List (Value × List Tx)) : txTotal (a ++ b) = txTotal a + txTotal b := by unfold txTotal; rw [List.map_append, List.sum_append]
theorem txTotal_le (rs : List (Value × List Tx)) (k : Nat) : txTotal (rs.take k) ≤ txTotal rs := by
  have := txTotal_app (rs.take k) (rs.drop k)
  rw [List.take_append_drop] at this
  omega
theorem txTotal_len (rs : List (Value × List Tx)) : rs.length ≤ txTotal rs := by
  unfold txTotal
  induction rs with
  | nil => simp
  | cons p r ih => simp only [List.map_cons, List.sum_cons, List.length_cons]; omega

/-- may the rows be? -/
def okRows (words : Int) (rs : List (Value × List Tx)) : Bool := rs.all fun p => p.2.all (okTx words)
/-- the code of rows, but for the end -/
def rowsCd (t : TxC) (rs : List (List Tx)) : Cd := rs.foldl (fun c l => c.txs t l) (Cd.new.start t)

/-- what Straight answers -/
def StraightPost (words size : Int) (ps : List PlaceD) (thread : Int) (rs : List (Value × List Tx)) (w : World) (e : Ending) (w' : World) : Prop :=
  Below w.heap.size w w' ∧
  ((e = .returned (.tuple #[.slice none 0 0, .int .i64 1]) ∧ ¬ (Planned words size ps ∧ 0 ≤ thread ∧ thread < ps.length ∧ okRows words rs = true)) ∨
   ∃ (k : Nat) (p : PlaceD), thread = k ∧ ps[k]? = some p ∧ Planned words size ps ∧ okRows words rs = true ∧
    ((e = .returned (.tuple #[.slice none 0 0, .int .i64 3]) ∧ ∃ j, j ≤ rs.length ∧ ((rowsCd (txOf words size p k) ((rs.take j).map Prod.snd)).over = true ∨ (rowsCd (txOf words size p k) ((rs.take j).map Prod.snd)).halt.over = true)) ∨
     ∃ g, e = .returned (.tuple #[.slice (some ⟨g, 0, none⟩) (rowsCd (txOf words size p k) (rs.map Prod.snd)).halt.ops.length (rowsCd (txOf words size p k) (rs.map Prod.snd)).halt.ops.length, .int .i64 0]) ∧
      w'.heap[g]? = some (.cells ((rowsCd (txOf words size p k) (rs.map Prod.snd)).halt.done.flatMap encOp).toArray 107 (0, 0)) ∧ w.heap.size ≤ g ∧ (rowsCd (txOf words size p k) (rs.map Prod.snd)).halt.over = false ∧ (rowsCd (txOf words size p k) (rs.map Prod.snd)).halt.ops.length ≤ 262144))

/-! ### the walk -/
set_option maxRecDepth 100000 in
set_option maxHeartbeats 8000000 in
theorem straight_any {tao ra : Option Addr} {tcap rc : Nat} {ps : List PlaceD} {rs : List (Value × List Tx)} (hp : RdT encP w 5 (.slice tao ps.length tcap) ps) (hr : RowsAt w (.slice ra rs.length rc) rs) (hpl : ps.length ≤ 262144) (htot : txTotal rs ≤ 262144) (words size thread : Int) :
    Calls Tryz.prog 27 #[.agg #[.int .i64 words, .slice tao ps.length tcap, .int .i64 size], .int .i64 thread, .slice ra rs.length rc] w (StraightPost words size ps thread rs w) := by
  have HP := hidI hp
  have HR := hidI hr
  have HPL := hidI hpl
  have HTOT := hidI htot
  have HRL := hidI (Nat.le_trans (txTotal_len rs) htot)
  clear hp hr hpl htot
  go_enter Tryz.func27, Tryz.ntmps27
  go_wp2_with fail
  have HB0 := hidI ((Below.refl w.heap.size w).alloc (Nat.le_refl _) (.cells #[.int .i64 words, .slice tao ps.length tcap, .int .i64 size] 46))
  have HX0 := hidI (block_new w (.cells #[.int .i64 words, .slice tao ps.length tcap, .int .i64 size] 46))
  have HG0 := hidI (Nat.le_refl w.heap.size)
  obtain ⟨bp, hbp⟩ : ∃ b, b = w.heap.size := ⟨_, rfl⟩
  have HBP := hidI hbp
  rw [← hbp] at HX0 ⊢
  generalize w.alloc (.cells #[.int .i64 words, .slice tao ps.length tcap, .int .i64 size] 46) = w0 at HB0 HX0 ⊢
  clear hbp
  have p0 : w0.cell? ⟨bp, 0, none⟩ = some (.int .i64 words) := cell_of_block HX0.out rfl
  have p1 : w0.cell? ⟨bp, 1, none⟩ = some (.slice tao ps.length tcap) := cell_of_block HX0.out rfl
  have p2 : w0.cell? ⟨bp, 2, none⟩ = some (.int .i64 size) := cell_of_block HX0.out rfl
  refine (planned_any (Rd.below HP.out HB0.out) HPL.out words size).mono ?_
  rintro e w1 ⟨b, rfl, hb, hb1⟩
  have HB1 := hidI (HB0.out.trans (hb1.mono HB0.out.size))
  have HX1 := hidI (blk hb1 HX0.out)
  have HPB := hidI hb
  clear hb hb1 p0 p1 p2
  have p0 : w1.cell? ⟨bp, 0, none⟩ = some (.int .i64 words) := cell_of_block HX1.out rfl
  have p1 : w1.cell? ⟨bp, 1, none⟩ = some (.slice tao ps.length tcap) := cell_of_block HX1.out rfl
  have p2 : w1.cell? ⟨bp, 2, none⟩ = some (.int .i64 size) := cell_of_block HX1.out rfl
  cases b with
  | false =>
    have HNO := hidI (show ¬ (Planned words size ps ∧ 0 ≤ thread ∧ thread < ps.length ∧ okRows words rs = true) from fun h => by have := HPB.out.2 h.1; cases this)
    go_wp2_with fail
    go_ret2
    exact ⟨HB1.out, .inl ⟨rfl, HNO.out⟩⟩
  | true =>
    have HPD := hidI (HPB.out.1 rfl)
    by_cases ht0 : thread < 0
    · have q1 : decide (thread < 0) = true := decide_eq_true ht0
      have HNO := hidI (show ¬ (Planned words size ps ∧ 0 ≤ thread ∧ thread < ps.length ∧ okRows words rs = true) from fun h => by have := h.2.1; omega)
      clear ht0
      go_wp2_with fail
      go_ret2
      exact ⟨HB1.out, .inl ⟨rfl, HNO.out⟩⟩
    obtain ⟨th, rfl⟩ : ∃ n : Nat, thread = n := ⟨thread.toNat, by omega⟩
    have q1 : decide ((th : Int) < 0) = false := decide_eq_false (by omega)
    by_cases htl : ps.length ≤ th
    · have q2 : decide (ps.length ≤ th) = true := decide_eq_true htl
      have HNO := hidI (show ¬ (Planned words size ps ∧ 0 ≤ (th : Int) ∧ (th : Int) < ps.length ∧ okRows words rs = true) from fun h => by have := h.2.2.1; omega)
      clear ht0 htl
      go_wp2_with fail
      go_ret2
      exact ⟨HB1.out, .inl ⟨rfl, HNO.out⟩⟩
    have q2 : decide (ps.length ≤ th) = false := decide_eq_false htl
    have HTL := hidI htl
    clear ht0 htl
    go_wp2_with fail
    have hrl := HRL.out
    go_loopw [30] (fun i wr => ∃ j : Nat, j ≤ rs.length ∧ i = .int .i64 (j : Int) ∧ Hid (∀ p ∈ rs.take j, p.2.all (okTx words) = true) ∧ Hid (Below w.heap.size w wr) ∧ Hid (wr.heap[bp]? = some (.cells #[.int .i64 words, .slice tao ps.length tcap, .int .i64 size] 46 (0, 0)))) (fun i _ => ((rs.length : Int) - intOf i).toNat)
    case atStart => exact ⟨0, Nat.zero_le _, rfl, hidI (fun p hp => by simp at hp), HB1, HX1⟩
    case round =>
      obtain ⟨j, hj, rfl, HA, HB, HX⟩ := hrel
      clear HB1 HX1 p0 p1 p2
      have hrl := HRL.out
      by_cases hlt : j < rs.length
      · obtain ⟨⟨rv, l⟩, hx⟩ := some_at hlt
        obtain ⟨g, off, rfl, hg, hc⟩ := RdT.at encR_len (Rd.below HR.out.rows HB.out) hx
        have d0 := hc 0 _ rfl
        simp only [Nat.mul_one, Nat.add_zero] at d0
        have hE := HR.out.each _ (List.mem_of_getElem? hx)
        obtain ⟨lo, lc, hrv⟩ := Rd.shape hE
        simp only at hrv
        subst hrv
        have hll : l.length ≤ 262144 := by
          have h1 := txTotal_step hx
          have h2 := txTotal_le rs (j + 1)
          have := HTOT.out
          simp only at h1; omega
        have HLL := hidI hll
        have HE := hidI (Rd.below hE HB.out)
        have HTK := hidI (take_snoc hx)
        have HXX := hidI hx
        clear hx hc hE hll
        go_wp2_with fail
        refine (containstx_any HX.out HE.out HLL.out).mono ?_
        rintro e w2 ⟨rfl, hb2⟩
        have HB2 := hidI (HB.out.trans (hb2.mono HB.out.size))
        have HX2 := hidI (blk hb2 HX.out)
        clear hb2 d0
        cases hall : l.all (okTx words) with
        | false =>
          have HNO := hidI (show ¬ (Planned words size ps ∧ 0 ≤ (th : Int) ∧ (th : Int) < ps.length ∧ okRows words rs = true) from fun h => by
            have h9 := List.all_eq_true.1 h.2.2.2 _ (List.mem_of_getElem? HXX.out)
            simp only at h9
            rw [hall] at h9
            cases h9)
          clear hall
          go_wp2_with fail
          go_ret2
          exact ⟨HB2.out, .inl ⟨rfl, HNO.out⟩⟩
        | true =>
          have HALL := hidI hall
          have HA2 := hidI (show ∀ p ∈ rs.take (j + 1), p.2.all (okTx words) = true from fun p hp => by
            rw [HTK.out] at hp
            rcases List.mem_append.1 hp with hp | hp
            · exact HA.out p hp
            · simp at hp; subst hp; exact HALL.out)
          clear hall
          go_wp2_with fail
          exact ⟨⟨j + 1, by omega, by go_num, HA2, HB2, HX2⟩, by simp [intOf]; omega⟩
      · obtain rfl : j = rs.length := by omega
        have HOK := hidI (show okRows words rs = true from List.all_eq_true.2 (fun p hp => HA.out p (by rw [List.take_length]; exact hp)))
        clear HA hj hlt hrl
        obtain ⟨w2, rfl⟩ : ∃ x, x = wr := ⟨_, rfl⟩
        have p0 : w2.cell? ⟨bp, 0, none⟩ = some (.int .i64 words) := cell_of_block HX.out rfl
        have p1 : w2.cell? ⟨bp, 1, none⟩ = some (.slice tao ps.length tcap) := cell_of_block HX.out rfl
        have p2 : w2.cell? ⟨bp, 2, none⟩ = some (.int .i64 size) := cell_of_block HX.out rfl
        obtain ⟨⟨xa, xb, xc, xd, xe⟩, hpx⟩ := some_at (l := ps) (k := th) (by have := HTL.out; omega)
        obtain ⟨g, off, hto, hg, hc⟩ := RdT.at encP_len (Rd.below HP.out HB.out) hpx
        subst hto
        have d0 := hc 0 _ rfl
        have d1 := hc 1 _ rfl
        have d2 := hc 2 _ rfl
        have d3 := hc 3 _ rfl
        have d4 := hc 4 _ rfl
        simp only [Nat.add_zero] at d0
        have HPX := hidI hpx
        have hti : (th : Int) < (ps.length : Int) := by have := HTL.out; omega
        have htn : th < ps.length := by have := HTL.out; omega
        clear hc hpx
        go_wp2_with fail
        have HB3 := hidI (HB.out.alloc HB.out.size (.cells #[.int .i64 xa, .int .i64 xb, .int .i64 xc, .int .i64 xd, .int .i64 xe] 87))
        have HX3 := hidI (block_alloc (o := .cells #[.int .i64 xa, .int .i64 xb, .int .i64 xc, .int .i64 xd, .int .i64 xe] 87) HX.out)
        have HY3 := hidI (block_new w2 (.cells #[.int .i64 xa, .int .i64 xb, .int .i64 xc, .int .i64 xd, .int .i64 xe] 87))
        have HZ3 := hidI (show w2.heap.size + 1 ≤ (w2.alloc (.cells #[.int .i64 xa, .int .i64 xb, .int .i64 xc, .int .i64 xd, .int .i64 xe] 87)).heap.size from by rw [World.size_alloc]; omega)
        obtain ⟨bl, hbl⟩ : ∃ b, b = w2.heap.size := ⟨_, rfl⟩
        have HBL := hidI (show w.heap.size ≤ bl from by have := HB.out.size; omega)
        rw [← hbl] at HY3 HZ3 ⊢
        clear hbl p0 p1 p2 d0 d1 d2 d3 d4 hti htn
        generalize w2.alloc (.cells #[.int .i64 xa, .int .i64 xb, .int .i64 xc, .int .i64 xd, .int .i64 xe] 87) = w3 at HB3 HX3 HY3 HZ3 ⊢
        have e1 : IntKind.i64.wrap (xa + 1) = xa + 1 := IntWalk.i64_in _ (by have h9 := (HPD.out.mem _ (List.mem_of_getElem? HPX.out)).1.1; unfold InMem at h9; simp only at h9; omega)
        have p0 : w3.cell? ⟨bp, 0, none⟩ = some (.int .i64 words) := cell_of_block HX3.out rfl
        have p1 : w3.cell? ⟨bp, 1, none⟩ = some (.slice (some ⟨g, off, none⟩) ps.length tcap) := cell_of_block HX3.out rfl
        have p2 : w3.cell? ⟨bp, 2, none⟩ = some (.int .i64 size) := cell_of_block HX3.out rfl
        have d0 : w3.cell? ⟨bl, 0, none⟩ = some (.int .i64 xa) := cell_of_block HY3.out rfl
        have d1 : w3.cell? ⟨bl, 1, none⟩ = some (.int .i64 xb) := cell_of_block HY3.out rfl
        have d2 : w3.cell? ⟨bl, 2, none⟩ = some (.int .i64 xc) := cell_of_block HY3.out rfl
        have d3 : w3.cell? ⟨bl, 3, none⟩ = some (.int .i64 xd) := cell_of_block HY3.out rfl
        have d4 : w3.cell? ⟨bl, 4, none⟩ = some (.int .i64 xe) := cell_of_block HY3.out rfl
        go_region_held3 (fun w' => w'.cell? ⟨bp, 0, none⟩ = some (.int .i64 words) ∧ w'.cell? ⟨bp, 1, none⟩ = some (.slice (some ⟨g, off, none⟩) ps.length tcap) ∧ w'.cell? ⟨bp, 2, none⟩ = some (.int .i64 size) ∧ w'.cell? ⟨bl, 0, none⟩ = some (.int .i64 xa) ∧ w'.cell? ⟨bl, 1, none⟩ = some (.int .i64 xb) ∧ w'.cell? ⟨bl, 2, none⟩ = some (.int .i64 xc) ∧ w'.cell? ⟨bl, 3, none⟩ = some (.int .i64 xd) ∧ w'.cell? ⟨bl, 4, none⟩ = some (.int .i64 xe)) (refine ⟨?_, ?_, ?_, ?_, ?_, ?_, ?_, ?_⟩ <;> first | assumption | simp only [World.cell?_drew, *] | exact pA0 _ | exact pA1 _ | exact pA2 _ | exact dA0 _ | exact dA1 _ | exact dA2 _ | exact dA3 _ | exact dA4 _) (first
          | (go_at_call 54; refine (emnew_any _).mono ?_; rintro e w4 ⟨bc, own0, rfl, hc0, ho0, hb4⟩; have HC0 := hidI hc0; have HO0 := hidI ho0; have HB4 := hidI (show Below w.heap.size w w4 from HB3.out.drew.trans (hb4.mono HB3.out.size)); have HS4 := hidI hb4.size; have HX4 := hidI (show w4.heap[bp]? = _ from blk hb4 HX3.out); have HY4 := hidI (show w4.heap[bl]? = _ from blk hb4 HY3.out); clear hc0 ho0 hb4 p0 p1 p2 d0 d1 d2 d3 d4; have p0 : w4.cell? ⟨bp, 0, none⟩ = some (.int .i64 words) := cell_of_block HX4.out rfl; have p1 : w4.cell? ⟨bp, 1, none⟩ = some (.slice (some ⟨g, off, none⟩) ps.length tcap) := cell_of_block HX4.out rfl; have p2 : w4.cell? ⟨bp, 2, none⟩ = some (.int .i64 size) := cell_of_block HX4.out rfl; have d0 : w4.cell? ⟨bl, 0, none⟩ = some (.int .i64 xa) := cell_of_block HY4.out rfl; have d1 : w4.cell? ⟨bl, 1, none⟩ = some (.int .i64 xb) := cell_of_block HY4.out rfl; have d2 : w4.cell? ⟨bl, 2, none⟩ = some (.int .i64 xc) := cell_of_block HY4.out rfl; have d3 : w4.cell? ⟨bl, 3, none⟩ = some (.int .i64 xd) := cell_of_block HY4.out rfl; have d4 : w4.cell? ⟨bl, 4, none⟩ = some (.int .i64 xe) := cell_of_block HY4.out rfl; have pA0 : ∀ o : Obj, (w4.alloc o).cell? ⟨bp, 0, none⟩ = some (.int .i64 words) := fun o => cell_of_block (block_alloc HX4.out) rfl; have pA1 : ∀ o : Obj, (w4.alloc o).cell? ⟨bp, 1, none⟩ = some (.slice (some ⟨g, off, none⟩) ps.length tcap) := fun o => cell_of_block (block_alloc HX4.out) rfl; have pA2 : ∀ o : Obj, (w4.alloc o).cell? ⟨bp, 2, none⟩ = some (.int .i64 size) := fun o => cell_of_block (block_alloc HX4.out) rfl; have dA0 : ∀ o : Obj, (w4.alloc o).cell? ⟨bl, 0, none⟩ = some (.int .i64 xa) := fun o => cell_of_block (block_alloc HY4.out) rfl; have dA1 : ∀ o : Obj, (w4.alloc o).cell? ⟨bl, 1, none⟩ = some (.int .i64 xb) := fun o => cell_of_block (block_alloc HY4.out) rfl; have dA2 : ∀ o : Obj, (w4.alloc o).cell? ⟨bl, 2, none⟩ = some (.int .i64 xc) := fun o => cell_of_block (block_alloc HY4.out) rfl; have dA3 : ∀ o : Obj, (w4.alloc o).cell? ⟨bl, 3, none⟩ = some (.int .i64 xd) := fun o => cell_of_block (block_alloc HY4.out) rfl; have dA4 : ∀ o : Obj, (w4.alloc o).cell? ⟨bl, 4, none⟩ = some (.int .i64 xe) := fun o => cell_of_block (block_alloc HY4.out) rfl)
          )
        have HT5 := hidI (show TxAt (w4.alloc (.cells (encRow bc (.slice (some ⟨g, off, none⟩) ps.length tcap) (txOf words size ⟨xa, xb, xc, xd, xe⟩ th)) 137)) own0 w4.heap.size bc (.slice (some ⟨g, off, none⟩) ps.length tcap) (txOf words size ⟨xa, xb, xc, xd, xe⟩ th) Cd.new 0 from ⟨HC0.out.alloc _, Keep.new HC0.out _⟩)
        have HB5 := hidI (show Below w.heap.size w (w4.alloc (.cells (encRow bc (.slice (some ⟨g, off, none⟩) ps.length tcap) (txOf words size ⟨xa, xb, xc, xd, xe⟩ th)) 137)) from HB4.out.alloc HB4.out.size _)
        have HW5 := hidI (show ∀ q, own0 q → w.heap.size ≤ q from fun q hq => Nat.le_trans HB3.out.size (HO0.out q hq))
        have HOKT := hidI (HPD.out.ok HPX.out)
        obtain ⟨br, hbr⟩ : ∃ b, b = w4.heap.size := ⟨_, rfl⟩
        rw [← hbr] at HT5 ⊢
        change Exit.then _ _ Exit.normal _ (w4.alloc (.cells (encRow bc (.slice (some ⟨g, off, none⟩) ps.length tcap) (txOf words size ⟨xa, xb, xc, xd, xe⟩ th)) 137))
        generalize w4.alloc (.cells (encRow bc (.slice (some ⟨g, off, none⟩) ps.length tcap) (txOf words size ⟨xa, xb, xc, xd, xe⟩ th)) 137) = w5 at HT5 HB5 ⊢
        obtain ⟨t, ht⟩ : ∃ t, t = txOf words size ⟨xa, xb, xc, xd, xe⟩ th := ⟨_, rfl⟩
        obtain ⟨tv, htv⟩ : ∃ v, v = Value.slice (some ⟨g, off, none⟩) ps.length tcap := ⟨_, rfl⟩
        rw [← ht] at HOKT
        rw [← ht, ← htv] at HT5
        have HTEQ := hidI ht
        clear hbr ht htv p0 p1 p2 d0 d1 d2 d3 d4 pA0 pA1 pA2 dA0 dA1 dA2 dA3 dA4 e1 HC0 HO0
        have x0 := HT5.out.x0
        go_wp2_with fail
        refine (txstart_any HT5.out HOKT.out (by omega)).mono ?_
        rintro e w6 ⟨rfl, own1, r1, r2, r3⟩
        have HT6 := hidI r1
        have HB6 := hidI (Chg.below HB5.out HB5.out.size r2.chg HW5.out)
        have HW6 := hidI (show ∀ q, own1 q → w.heap.size ≤ q from fun q hq => by
          rcases Nat.lt_or_ge q w5.heap.size with hl | hl
          · exact HW5.out q (r2.less q hl hq)
          · exact Nat.le_trans HB5.out.size hl)
        clear r1 r2 r3 x0 HT5 HB5 HW5
        have hrl := HRL.out
        go_wp2_with fail
        go_loopw [61] (fun i wr => ∃ (j : Nat) (cj : Cd) (oj : Nat → Prop), j ≤ rs.length ∧ i = .int .i64 (j : Int) ∧ Hid (TxAt wr oj br bc tv t cj (65 * j + 17 * txTotal (rs.take j))) ∧ Hid (∀ q, oj q → w.heap.size ≤ q) ∧ Hid (Below w.heap.size w wr) ∧ Hid (rowsCd t ((rs.take j).map Prod.snd) = cj)) (fun i _ => ((rs.length : Int) - intOf i).toNat)
        case atStart => exact ⟨0, _, own1, Nat.zero_le _, rfl, HT6, HW6, HB6, hidI rfl⟩
        case round =>
          obtain ⟨j, cj, oj, hj, rfl, HT, HW, HB, HC⟩ := hrel
          clear HT6 HW6 HB6
          have hrl := HRL.out
          have x0 := HT.out.x0
          by_cases hlt : j < rs.length
          · obtain ⟨⟨rv, l⟩, hx⟩ := some_at hlt
            obtain ⟨g9, off9, rfl, hg9, hc⟩ := RdT.at encR_len (Rd.below HR.out.rows HB.out) hx
            have d0 := hc 0 _ rfl
            simp only [Nat.mul_one, Nat.add_zero] at d0
            have hE := HR.out.each _ (List.mem_of_getElem? hx)
            obtain ⟨lo, lc, hrv⟩ := Rd.shape hE
            simp only at hrv
            subst hrv
            have hst := txTotal_step hx
            have hle := txTotal_le rs (j + 1)
            have hto := HTOT.out
            simp only at hst
            have HLL := hidI (show l.length ≤ 262144 from by omega)
            have HKB := hidI (show 65 * j + 17 * txTotal (rs.take j) + 17 * l.length ≤ 1099506000000 from by omega)
            have HKN := hidI (show 65 * j + 17 * txTotal (rs.take j) + 65 + 17 * l.length ≤ 65 * (j + 1) + 17 * txTotal (rs.take (j + 1)) from by omega)
            have HE := hidI (show RdK wr oj (.slice lo l.length lc) l from ⟨Rd.below hE HB.out, fun hl b hb ho => by
              obtain ⟨b', hb', hlt'⟩ := Rd.lt hE hl
              rw [hb] at hb'
              simp only [Option.some.injEq] at hb'
              have := HW.out b ho
              omega⟩)
            have HKI := hidI (show ∀ o ∈ l, o.kind = 2 ∨ o.kind = 3 from fun o ho => by
              have h9 := List.all_eq_true.1 (List.all_eq_true.1 HOK.out _ (List.mem_of_getElem? hx)) o ho
              simp only [okTx, Bool.and_eq_true, Bool.or_eq_true, decide_eq_true_eq] at h9
              exact h9.1.1)
            have HTK := hidI (take_snoc hx)
            clear hx hc hE hst hle hto
            go_wp2_with fail
            refine (txtxs_any HT.out HOKT.out HE.out HKI.out HLL.out HKB.out).mono ?_
            rintro e w7 ⟨rfl, own2, r1, r2, r3⟩
            have HT7 := hidI (r1.more HKN.out)
            have HB7 := hidI (Chg.below HB.out HB.out.size r2.chg HW.out)
            have HW7 := hidI (show ∀ q, own2 q → w.heap.size ≤ q from fun q hq => by
              rcases Nat.lt_or_ge q wr.heap.size with hl | hl
              · exact HW.out q (r2.less q hl hq)
              · exact Nat.le_trans HB.out.size hl)
            have HC7 := hidI (show rowsCd t ((rs.take (j + 1)).map Prod.snd) = cj.txs t l from by
              rw [HTK.out, List.map_append]
              unfold rowsCd at HC ⊢
              rw [List.foldl_append, HC.out]
              rfl)
            clear r1 r2 r3 x0 d0
            generalize cj.txs t l = c7 at HT7 HC7
            have x0 := HT7.out.x0
            obtain ⟨oo7, oc7, lo7, lc7, mb7, hin⟩ := HT7.out.code
            have c3 : w7.cell? ⟨bc, 3, none⟩ = some (.bool c7.over) := cell_of_block hin.blk rfl
            clear hin
            cases hov : c7.over with
            | true =>
              rw [hov] at c3
              have HOV := hidI hov
              clear hov
              go_wp2_with fail
              go_ret2
              refine ⟨HB7.out, .inr ⟨th, _, rfl, HPX.out, HPD.out, HOK.out, .inl ⟨rfl, j + 1, by omega, .inl ?_⟩⟩⟩
              rw [← HTEQ.out, HC7.out]
              exact HOV.out
            | false =>
              rw [hov] at c3
              clear hov
              go_wp2_with fail
              exact ⟨⟨j + 1, c7, own2, by omega, by go_num, HT7, HW7, HB7, HC7⟩, by simp [intOf]; omega⟩
          · obtain rfl : j = rs.length := by omega
            have hcj := HC.out
            rw [List.take_length] at hcj
            have HCJ := hidI hcj
            have HKB := hidI (show 65 * rs.length + 17 * txTotal (rs.take rs.length) ≤ 1099511627776 from by have h1 := txTotal_le rs rs.length; have h2 := HTOT.out; omega)
            clear hcj
            go_wp2_with fail
            refine (emhalt_any HT.out.code).mono ?_
            rintro e w7 ⟨rfl, own2, r1, r2, r3⟩
            have HT7 := hidI (HT.out.next r1 r2)
            have HB7 := hidI (Chg.below HB.out HB.out.size r2.chg HW.out)
            have HC7 := hidI (show (rowsCd t (rs.map Prod.snd)).halt = cj.halt from by rw [HCJ.out])
            clear r1 r2 r3 x0
            generalize cj.halt = c7 at HT7 HC7
            have x0 := HT7.out.x0
            obtain ⟨oo7, oc7, lo7, lc7, mb7, hin⟩ := HT7.out.code
            have c3 : w7.cell? ⟨bc, 3, none⟩ = some (.bool c7.over) := cell_of_block hin.blk rfl
            have HFEW := hidI hin.few
            clear hin
            cases hov : c7.over with
            | true =>
              rw [hov] at c3
              have HOV := hidI hov
              clear hov
              go_wp2_with fail
              go_ret2
              refine ⟨HB7.out, .inr ⟨th, _, rfl, HPX.out, HPD.out, HOK.out, .inl ⟨rfl, rs.length, Nat.le_refl _, .inr ?_⟩⟩⟩
              rw [← HTEQ.out, List.take_length, HC7.out]
              exact HOV.out
            | false =>
              rw [hov] at c3
              have HOV := hidI hov
              clear hov
              go_wp2_with fail
              refine (ops_any HT7.out.code HKB.out).mono ?_
              rintro e w8 ⟨g8, rfl, hg8, hge, hb8⟩
              have HB8 := hidI (HB7.out.trans (hb8.mono HB7.out.size))
              have HG8 := hidI hg8
              have HGE := hidI (Nat.le_trans HB7.out.size hge)
              clear hg8 hge hb8 x0 c3
              go_wp2_with fail
              go_ret2
              refine ⟨HB8.out, .inr ⟨th, _, rfl, HPX.out, HPD.out, HOK.out, .inr ⟨g8, ?_, ?_, HGE.out, ?_, ?_⟩⟩⟩
              · rw [← HTEQ.out, HC7.out]; rfl
              · rw [← HTEQ.out, HC7.out]; exact HG8.out
              · rw [← HTEQ.out, HC7.out]; exact HOV.out
              · rw [← HTEQ.out, HC7.out]; exact HFEW.out
end

section
variable {w w' : World}

/-! ### plain -/
def imgZs (n : Nat) : List Int := List.replicate n 32
def imgPs (words : Int) (n : Nat) : List PlaceD := mkP words (imgZs n)
def imgSize (words : Int) (n : Nat) : Int := mkS words (imgZs n)
theorem frames_places (zs : List Int) : ∀ {s : Int × Bool}, (∀ z ∈ zs, 0 ≤ z) → InMem s.1 → (fin zs s).2 = false → framesOf (placesOf zs s) = zs := by
  induction zs with
  | nil => intro s _ _ _; rfl
  | cons n l ih =>
    intro s hz hs hf
    have hn := hz n List.mem_cons_self
    have h1 := tk_ok hn hs
    have h2 := tk_ok (n := 128) (by decide) h1
    have h3 := tk_ok (n := 64) (by decide) h2
    have h4 := tk_ok (n := 4096) (by decide) h3
    have ht : (tk n s).1 = s.1 + n := by
      unfold tk
      split
      · rename_i hc
        exfalso
        have : (fin l (adv n s)).2 = true := fin_over l (tk_over (tk_over (tk_over (by unfold tk; rw [if_pos hc]))))
        unfold fin at hf
        rw [this] at hf
        cases hf
      · rfl
    unfold placesOf framesOf
    rw [List.map_cons]
    congr 1
    · unfold frameOf wrap64
      obtain ⟨a1, a2⟩ := hs
      obtain ⟨b1, b2⟩ := h1
      simp only
      rw [ht] at b1 b2 ⊢
      omega
    · exact ih (fun z hm => hz z (List.mem_cons_of_mem _ hm)) h4 hf
theorem imgZs_nonneg (n : Nat) : ∀ z ∈ imgZs n, 0 ≤ z := fun z hz => by rw [(List.mem_replicate.1 hz).2]; decide
theorem img_planned {words : Int} {n : Nat} (h : mkErr words (imgZs n) = 0) : Planned words (imgSize words n) (imgPs words n) ∧ (imgPs words n).length = n := by
  have hw := mkErr_words h
  have hp : imgPs words n = placesOf (imgZs n) (s0 words) := if_pos h
  have hf : (fin (imgZs n) (s0 words)).2 = false := by
    cases hq : (fin (imgZs n) (s0 words)).2 with
    | false => rfl
    | true =>
      exfalso
      unfold mkErr at h
      split at h
      · cases h
      · split at h
        · cases h
        · split at h
          · cases h
          · first
            | cases h
            | (rw [if_pos hq] at h; cases h)
  have hfr : framesOf (imgPs words n) = imgZs n := by
    rw [hp]
    exact frames_places _ (imgZs_nonneg n) (tk_ok (by decide) (tk_ok hw.1 ⟨by decide, by decide⟩)) hf
  refine ⟨⟨fun p hp' => ?_, by rw [hfr]; exact h, by rw [hfr]; rfl, by rw [hfr]; rfl⟩, by rw [hp, places_len]; simp [imgZs]⟩
  have : frameOf p ∈ imgZs n := by rw [← hfr]; exact List.mem_map_of_mem hp'
  rw [(List.mem_replicate.1 this).2]
  decide

/-- a thread's transactions -/
def imgTx (words : Int) (n i : Nat) : TxC := txOf words (imgSize words n) ((imgPs words n).getD i ⟨0, 0, 0, 0, 0⟩) i
/-- a thread's code -/
def imgCd (words : Int) (n i : Nat) (rows : List (List Tx)) : Cd := (rowsCd (imgTx words n i) rows).halt

/-- threads as they lie -/
def encR2 (p : Value × List (Value × List Tx)) : List Value := [p.1]
theorem encR2_len : ∀ p, (encR2 p).length = 1 := fun _ => rfl
structure ThsAt (w : World) (v : Value) (ts : List (Value × List (Value × List Tx))) : Prop where
  rows : RdT encR2 w 1 v ts
  each : ∀ p ∈ ts, RowsAt w p.1 p.2
  tot : ∀ p ∈ ts, txTotal p.2 ≤ 262144
theorem ThsAt.below {v : Value} {ts : List (Value × List (Value × List Tx))} (h : ThsAt w v ts) (hb : Below w.heap.size w w') : ThsAt w' v ts := ⟨Rd.below h.rows hb, fun p hp => (h.each p hp).below hb, h.tot⟩
def rowsOf (p : Value × List (Value × List Tx)) : List (List Tx) := p.2.map Prod.snd

/-- codes in new memory: each one's block -/
structure CodesIn (w : World) (base : Nat) (cs : List (Nat × List OpD)) : Prop where
  blk : ∀ p ∈ cs, w.heap[p.1]? = some (.cells (p.2.flatMap encOp).toArray 107 (0, 0)) ∧ base ≤ p.1
  inj : (cs.map Prod.fst).Nodup
def codeV1 (p : Nat × List OpD) : Value := .slice (some ⟨p.1, 0, none⟩) p.2.length p.2.length
theorem CodesIn.below {base : Nat} {cs : List (Nat × List OpD)} (h : CodesIn w base cs) (hb : Below w.heap.size w w') : CodesIn w' base cs := ⟨fun p hp => ⟨Go.Proofs.YtopdcjimpdalpaaGreat.blk hb (h.blk p hp).1, (h.blk p hp).2⟩, h.inj⟩
def lenSum (cs : List (Nat × List OpD)) : Nat := (cs.map fun p => p.2.length).sum

/-- the codes are those of the threads -/
structure CodesAre (words : Int) (n : Nat) (ts : List (Value × List (Value × List Tx))) (cs : List (Nat × List OpD)) : Prop where
  len : cs.length = ts.length
  at_ : ∀ (i : Nat) p t, cs[i]? = some p → ts[i]? = some t → p.2 = (imgCd words n i (rowsOf t)).done ∧ (imgCd words n i (rowsOf t)).over = false
/-- why there is too much -/
def Fail3 (words : Int) (ts : List (Value × List (Value × List Tx))) : Prop :=
  4 < ts.length ∨ mkErr words (imgZs ts.length) = 3 ∨
  (∃ i t j, ts[i]? = some t ∧ j ≤ t.2.length ∧ ((rowsCd (imgTx words ts.length i) ((t.2.take j).map Prod.snd)).over = true ∨ (rowsCd (imgTx words ts.length i) ((t.2.take j).map Prod.snd)).halt.over = true)) ∨
  (∃ i cs, i ≤ ts.length ∧ CodesAre words ts.length (ts.take i) cs ∧ 262144 < lenSum cs)

/-- what Image answers -/
def ImagePost (words : Int) (ts : List (Value × List (Value × List Tx))) (w : World) (e : Ending) (w' : World) : Prop :=
  Below w.heap.size w w' ∧
  ((∃ en, e = .returned (.tuple #[.agg #[.slice none 0 0, .int .i64 0, .slice none 0 0], .int .i64 en]) ∧
      (en = 1 ∧ (words < 0 ∨ ∃ t ∈ ts, okRows words t.2 = false) ∨ en = 3 ∧ Fail3 words ts)) ∨
   ∃ (co : Option Addr) (cc : Nat) (cs : List (Nat × List OpD)), e = .returned (.tuple #[.agg #[.slice co cs.length cc, .int .i64 (imgSize words ts.length), .slice none 0 0], .int .i64 0]) ∧
      w'.ownsRow w.heap.size 57 1 (.slice co cs.length cc) cs.length (cs.map codeV1) ∧ CodesIn w' w.heap.size cs ∧ CodesAre words ts.length ts cs ∧ lenSum cs ≤ 262144 ∧
      mkErr words (imgZs ts.length) = 0 ∧ ts.length ≤ 4 ∧ ∀ t ∈ ts, okRows words t.2 = true)

/-! ### the walk -/
theorem mkErr_img (words : Int) (n : Nat) : mkErr words (imgZs n) = 0 ∨ mkErr words (imgZs n) = 1 ∧ words < 0 ∨ mkErr words (imgZs n) = 3 := by
  unfold mkErr
  split
  · rename_i h; exact .inr (.inl ⟨rfl, h⟩)
  · split
    · rename_i h
      obtain ⟨j, hj, hn⟩ := h
      exfalso
      have := imgZs_nonneg n (nth (imgZs n) j) (by unfold nth; rw [List.getD_eq_getElem?_getD, List.getElem?_eq_getElem hj]; exact List.getElem_mem hj)
      omega
    · split
      · exact .inr (.inr rfl)
      · split
        · exact .inr (.inr rfl)
        · exact .inl rfl
theorem imgZs_len (n : Nat) : (imgZs n).length = n := by simp [imgZs]
/-- the frames as they are filled -/
def fillF (n k : Nat) : List Value := (List.replicate k (32 : Int) ++ List.replicate (n - k) 0).map (Value.int .i64)
theorem fillF_set {n k : Nat} (h : k < n) : (fillF n k).set k (.int .i64 32) = fillF n (k + 1) := by
  unfold fillF
  rw [show n - k = (n - (k + 1)) + 1 from by omega, List.replicate_succ, List.map_append, List.set_append_right _ _ (by simp), List.length_map, List.length_replicate, Nat.sub_self, List.map_cons, List.set_cons_zero, List.replicate_succ', List.append_assoc, List.map_append]
  rfl
theorem fillF_at {n k : Nat} (h : k < n) : (fillF n k)[k]? = some (.int .i64 0) := by
  unfold fillF
  rw [show n - k = (n - (k + 1)) + 1 from by omega, List.replicate_succ, List.getElem?_map, List.getElem?_append_right (by simp), List.length_replicate, Nat.sub_self]
  rfl
theorem fillF_len {n k : Nat} (h : k ≤ n) : (fillF n k).length = n := by unfold fillF; simp; omega
theorem CodesAre.snoc {words : Int} {n j : Nat} {ts : List (Value × List (Value × List Tx))} {cs : List (Nat × List OpD)} {t : Value × List (Value × List Tx)} {p : Nat × List OpD} (h : CodesAre words n (ts.take j) cs) (ht : ts[j]? = some t)
    (hp : p.2 = (imgCd words n j (rowsOf t)).done ∧ (imgCd words n j (rowsOf t)).over = false) : CodesAre words n (ts.take (j + 1)) (cs ++ [p]) := by
  have hj := (List.getElem?_eq_some_iff.1 ht).1
  have hl := h.len
  rw [List.length_take, Nat.min_eq_left (by omega)] at hl
  refine ⟨by rw [List.length_append, List.length_take]; simp; omega, fun i q u hq hu => ?_⟩
  rcases Nat.lt_or_ge i j with hi | hi
  · rw [List.getElem?_append_left (by omega)] at hq
    rw [List.getElem?_take_of_lt (by omega)] at hu
    exact h.at_ i q u hq (by rw [List.getElem?_take_of_lt hi]; exact hu)
  · have hi2 := (List.getElem?_eq_some_iff.1 hu).1
    rw [List.length_take] at hi2
    obtain rfl : i = j := by omega
    rw [List.getElem?_append_right (by omega), hl, Nat.sub_self] at hq
    simp only [List.getElem?_cons_zero, Option.some.injEq] at hq
    subst hq
    rw [List.getElem?_take_of_lt (by omega), ht] at hu
    cases hu
    exact hp
theorem emCodeInfo : (Tryz.prog.info? 57).map (fun i => (i.zero, i.size, i.bytes)) = some (some (.slice none 0 0), 1, 24) := by kernel_rfl

set_option maxRecDepth 100000 in
set_option maxHeartbeats 8000000 in
theorem image_any {ta : Option Addr} {tc : Nat} {ts : List (Value × List (Value × List Tx))} (h : ThsAt w (.slice ta ts.length tc) ts) (hl : ts.length ≤ 9000000000000) (words : Int) :
    Calls Tryz.prog 11 #[.int .i64 words, .slice ta ts.length tc] w (ImagePost words ts w) := by
  have H := hidI h
  have HL := hidI hl
  clear h
  have HR0 := hidI (block_new w (.cells #[.slice none 0 0, .int .i64 0, .slice none 0 0] 30))
  have HB0 := hidI ((Below.refl w.heap.size w).alloc (Nat.le_refl _) (.cells #[.slice none 0 0, .int .i64 0, .slice none 0 0] 30))
  obtain ⟨i0, hi, hz0, hz1, hz2⟩ := info_parts emIntInfo
  by_cases h4 : 4 < ts.length
  · have q1 : ((ts.length : Int) > 4) := by omega
    have H4 := hidI h4
    clear h4
    go_enter Tryz.func11, Tryz.ntmps11
    go_wp2_with fail
    refine bodyPost_ret (v := .tuple #[.agg #[.slice none 0 0, .int .i64 0, .slice none 0 0], .int .i64 3]) (by simp [results, Tryz.results11, go_sem]) rfl ?_
    exact ⟨HB0.out, .inl ⟨3, rfl, .inr ⟨rfl, .inl H4.out⟩⟩⟩
  · have q1 : ¬ ((ts.length : Int) > 4) := by omega
    go_enter Tryz.func11, Tryz.ntmps11
    have H4 := hidI h4
    go_wp2_with (at_make; refine wpList_make_s _ rfl _ _ 72 rfl 3 i0 _ 1 [.int .i64 0] Tryz.underlying72 hi hz0 hz1 rfl rfl (by decide) _ _ _ _ ts.length ts.length rfl rfl rfl rfl (Nat.le_refl _) (by rw [hz2]; have := H4.out; omega) (by have := H4.out; unfold maxLen; omega) ?_)
    intro w1 hg1 hs1 hb1
    have hb1 : Below (w.alloc (.cells #[.slice none 0 0, .int .i64 0, .slice none 0 0] 30)).heap.size (w.alloc (.cells #[.slice none 0 0, .int .i64 0, .slice none 0 0] 30)) w1 := by first | exact hb1 | (rw [World.size_alloc]; exact hb1)
    have hg1 : w1.heap[w.heap.size + 1]? = _ := hg1
    have hs1 : w1.heap.size = w.heap.size + 1 + 1 := hs1
    obtain ⟨br, hbr⟩ : ∃ b, b = w.heap.size := ⟨_, rfl⟩
    have HBR := hidI hbr
    have HR1 := hidI (blk hb1 HR0.out)
    have HB1 := hidI (HB0.out.trans (hb1.mono HB0.out.size))
    obtain ⟨bf, hbf⟩ : ∃ b, b = w.heap.size + 1 := ⟨_, rfl⟩
    have HBF := hidI hbf
    rw [← hbf] at hg1 ⊢
    rw [← hbr] at HR1 ⊢
    have HF1 := hidI (show w1.heap[bf]? = some (.cells (fillF ts.length 0).toArray 3 (0, 0)) from by rw [hg1]; unfold fillF; simp)
    have HS1 := hidI (show bf < w1.heap.size from by omega)
    clear hg1 hs1 hb1 hbr hbf HR0 HB0 hi hz0 hz1 hz2
    go_wp2_with fail
    have h4' : ts.length ≤ 4 := by have := H4.out; omega
    go_loopw [25] (fun i wr => ∃ k : Nat, k ≤ ts.length ∧ i = .int .i64 (k : Int) ∧ Hid (wr.heap[bf]? = some (.cells (fillF ts.length k).toArray 3 (0, 0))) ∧ Hid (Below w.heap.size w wr) ∧ Hid (wr.heap[br]? = some (.cells #[.slice none 0 0, .int .i64 0, .slice none 0 0] 30 (0, 0)))) (fun i _ => ((ts.length : Int) - intOf i).toNat)
    case atStart => exact ⟨0, Nat.zero_le _, rfl, HF1, HB1, HR1⟩
    case round =>
      obtain ⟨k, hk, rfl, HF, HB, HR⟩ := hrel
      clear HF1 HB1 HR1
      by_cases hlt : k < ts.length
      · have f0 : wr.frozen? ⟨bf, k, none⟩ = false := free_of_block HF.out
        have d0 : wr.cell? ⟨bf, k, none⟩ = some (.int .i64 0) := cell_of_block HF.out (by rw [List.getElem?_toArray]; exact fillF_at hlt)
        have HF2 := hidI (show (wr.setCell ⟨bf, k, none⟩ (.int .i64 32)).heap[bf]? = some (.cells (fillF ts.length (k + 1)).toArray 3 (0, 0)) from by
          rw [block_setCell (o := k) (.int .i64 32) HF.out, ← fillF_set hlt]; simp)
        have HB2 := hidI (HB.out.setCell (p := ⟨bf, k, none⟩) (by have := HBF.out; show w.heap.size ≤ bf; omega) (.int .i64 32))
        have HR2 := hidI (block_other (a := ⟨bf, k, none⟩) (u := .int .i64 32) HR.out (by have := HBF.out; have := HBR.out; show br ≠ bf; omega))
        have hw1 : IntKind.i64.wrap ((k : Int) + 1) = k + 1 := IntWalk.i64_in _ (by omega)
        go_wp2_with fail
        exact ⟨⟨k + 1, by omega, by go_num, HF2, HB2, HR2⟩, by simp [intOf]; omega⟩
      · obtain rfl : k = ts.length := by omega
        have HMAKE := hidI (show Calls Tryz.prog 18 #[.int .i64 words, .slice (some ⟨bf, 0, none⟩) ts.length ts.length] wr (MkPost words (imgZs ts.length) wr) from by
          have h9 := make_any words (some ⟨bf, 0, none⟩) (imgZs ts.length) ts.length wr ⟨_, _, rfl, by rw [imgZs_len]; exact Nat.le_refl _, fun i hi => ⟨bf, 0, rfl, lt_of_block HF.out, cell_of_block HF.out (by
            rw [imgZs_len] at hi
            unfold fillF imgZs nth
            simp [hi])⟩⟩ (by rw [imgZs_len]; omega)
          rw [imgZs_len] at h9
          exact h9)
        clear hlt
        go_wp2_with fail
        refine HMAKE.out.mono ?_
        intro e w2 hm
        obtain ⟨mo, mc, rfl, hmo, hb2⟩ := MkU.of hm
        have HMO := hidI (ownsRow_mono hmo (Nat.zero_le _))
        have HB2 := hidI (HB.out.trans (hb2.mono HB.out.size))
        have HR2 := hidI (blk hb2 HR.out)
        have HMC := hidI (mkErr_img words ts.length)
        clear hm hmo hb2 HMAKE
        obtain ⟨me, hme⟩ : ∃ x, x = mkErr words (imgZs ts.length) := ⟨_, rfl⟩
        obtain ⟨ms, hms⟩ : ∃ x, x = mkS words (imgZs ts.length) := ⟨_, rfl⟩
        obtain ⟨mw, hmw⟩ : ∃ x, x = mkW words (imgZs ts.length) := ⟨_, rfl⟩
        obtain ⟨mp, hmp⟩ : ∃ x, x = mkP words (imgZs ts.length) := ⟨_, rfl⟩
        rw [← hmp] at HMO
        rw [← hme, ← hms, ← hmw, ← hmp]
        have HME := hidI hme
        have HMS := hidI hms
        have HMW := hidI hmw
        have HMP := hidI hmp
        clear hme hms hmw hmp
        by_cases he : me = 0
        · subst he
          have HB4 := hidI ((HB2.out.alloc HB2.out.size (.cells #[.int .i64 mw, .slice mo mp.length mc, .int .i64 ms] 46)).alloc (by have := HB2.out.size; rw [World.size_alloc]; omega) (.cells #[.slice none 0 0, .int .i64 ms, .slice none 0 0] 30))
          have HR4 := hidI (block_alloc (o := (.cells #[.slice none 0 0, .int .i64 ms, .slice none 0 0] 30)) (block_alloc (o := (.cells #[.int .i64 mw, .slice mo mp.length mc, .int .i64 ms] 46)) HR2.out))
          have HQ4 := hidI (block_alloc (o := (.cells #[.slice none 0 0, .int .i64 ms, .slice none 0 0] 30)) (block_new w2 (.cells #[.int .i64 mw, .slice mo mp.length mc, .int .i64 ms] 46)))
          have HM4 := hidI (block_new2 w2 (.cells #[.int .i64 mw, .slice mo mp.length mc, .int .i64 ms] 46) (.cells #[.slice none 0 0, .int .i64 ms, .slice none 0 0] 30))
          have HMO4 := hidI (ownsRow_chg HMO.out (((Chg.refl (fun _ => False) w2).alloc (.cells #[.int .i64 mw, .slice mo mp.length mc, .int .i64 ms] 46)).alloc (.cells #[.slice none 0 0, .int .i64 ms, .slice none 0 0] 30)) (fun _ _ e => e))
          have HS4 := hidI (show w2.heap.size + 2 ≤ ((w2.alloc (.cells #[.int .i64 mw, .slice mo mp.length mc, .int .i64 ms] 46)).alloc (.cells #[.slice none 0 0, .int .i64 ms, .slice none 0 0] 30)).heap.size from by rw [World.size_alloc, World.size_alloc]; omega)
          have HPL := hidI (img_planned (words := words) (n := ts.length) HME.out.symm)
          go_wp2_with fail
          obtain ⟨bm, hbm⟩ : ∃ b, b = w2.heap.size + 1 := ⟨_, rfl⟩
          obtain ⟨bq, hbq⟩ : ∃ b, b = w2.heap.size := ⟨_, rfl⟩
          have HBQ := hidI (show w.heap.size ≤ bq ∧ bm = bq + 1 ∧ br < bq from by have h1 := lt_of_block HR2.out; have h2 := HB2.out.size; omega)
          rw [← hbm] at HM4 ⊢
          rw [← hbq] at HQ4 HS4 ⊢
          clear hbm hbq
          generalize (w2.alloc (.cells #[.int .i64 mw, .slice mo mp.length mc, .int .i64 ms] 46)).alloc (.cells #[.slice none 0 0, .int .i64 ms, .slice none 0 0] 30) = w4 at HB4 HR4 HQ4 HM4 HMO4 HS4 ⊢
          have hmw : mw = words := by rw [HMW.out]; exact if_pos HME.out.symm
          rw [hmw] at HQ4 ⊢
          have HPM := hidI (show Planned words ms mp ∧ mp.length = ts.length from by rw [HMS.out, HMP.out]; exact HPL.out)
          clear hmw HMC
          have h4' : ts.length ≤ 4 := by have := H4.out; omega
          go_loopw [47, 11] (fun i cv wr => ∃ (j : Nat) (cs : List (Nat × List OpD)) (co : Option Addr) (cc : Nat), j ≤ ts.length ∧ i = .int .i64 (j : Int) ∧ cv = .int .i64 (lenSum cs : Int) ∧ Hid (cs.length = j) ∧ Hid (lenSum cs ≤ 262144) ∧ Hid (wr.heap[bm]? = some (.cells #[.slice co j cc, .int .i64 ms, .slice none 0 0] 30 (0, 0))) ∧ Hid (wr.ownsRow (bm + 1) 57 1 (.slice co j cc) j (cs.map codeV1)) ∧ Hid (CodesIn wr (bm + 1) cs) ∧ Hid (CodesAre words ts.length (ts.take j) cs) ∧ Hid (∀ t ∈ ts.take j, okRows words t.2 = true) ∧
            Hid (wr.heap[bq]? = some (.cells #[.int .i64 words, .slice mo mp.length mc, .int .i64 ms] 46 (0, 0))) ∧ Hid (wr.heap[br]? = some (.cells #[.slice none 0 0, .int .i64 0, .slice none 0 0] 30 (0, 0))) ∧ Hid (Below w.heap.size w wr) ∧ Hid (wr.ownsRow 0 87 5 (.slice mo mp.length mc) mp.length (mp.flatMap encP)) ∧ Hid (bm + 1 ≤ wr.heap.size)) (fun i _ _ => ((ts.length : Int) - intOf i).toNat)
          case atStart => exact ⟨0, [], none, 0, Nat.zero_le _, rfl, rfl, hidI rfl, hidI (by simp [lenSum]), HM4, hidI (World.ownsRow_nil _ _ _ _), hidI ⟨fun p hp => (by cases hp), List.nodup_nil⟩, hidI ⟨by simp, fun i p t hp => by simp at hp⟩, hidI (fun t ht => by simp at ht), HQ4, HR4, HB4, HMO4, hidI (by have := HS4.out; have := HBQ.out; omega)⟩
          case round =>
            obtain ⟨j, cs, co, cc, hj, rfl, rfl, HCL, HSUM, HM, HO, HCI, HCA, HOK, HQ, HR9, HB9, HPR, HSZ⟩ := hrel
            clear HM4 HQ4 HR4 HB4 HMO4
            have h4' : ts.length ≤ 4 := by have := H4.out; omega
            by_cases hlt : j < ts.length
            · obtain ⟨⟨tv, rows⟩, hx⟩ := some_at hlt
              obtain ⟨g9, off9, rfl, hg9, hc⟩ := RdT.at encR2_len (Rd.below H.out.rows HB9.out) hx
              have d0 := hc 0 _ rfl
              simp only [Nat.mul_one, Nat.add_zero] at d0
              have hE := (H.out.each _ (List.mem_of_getElem? hx)).below HB9.out
              obtain ⟨ro, rc, hrv⟩ := Rd.shape hE.rows
              simp only at hrv
              subst hrv
              have HE := hidI hE
              have HTOT := hidI (show txTotal rows ≤ 262144 from H.out.tot _ (List.mem_of_getElem? hx))
              have HX := hidI hx
              have HTK := hidI (take_snoc hx)
              have q0 : wr.cell? ⟨bq, 0, none⟩ = some (.int .i64 words) := cell_of_block HQ.out rfl
              have q1 : wr.cell? ⟨bq, 1, none⟩ = some (.slice mo mp.length mc) := cell_of_block HQ.out rfl
              have q2 : wr.cell? ⟨bq, 2, none⟩ = some (.int .i64 ms) := cell_of_block HQ.out rfl
              have hw1 : IntKind.i64.wrap ((j : Int) + 1) = j + 1 := IntWalk.i64_in _ (by omega)
              clear hx hc hE
              go_wp2_with fail
              refine (straight_any (ps := mp) (rs := rows) (Rd.of_own HPR.out) HE.out (by have := HPM.out.2; omega) HTOT.out words ms (j : Int)).mono ?_
              rintro e w5 ⟨hb5, hpost⟩
              have HB5 := hidI (HB9.out.trans (hb5.mono HB9.out.size))
              have HPR5 := hidI (ownsRow_chg HPR.out (Chg.of_below (S := fun _ => False) hb5) (fun _ _ e => e))
              have HR5 := hidI (blk hb5 HR9.out)
              have HQ5 := hidI (blk hb5 HQ.out)
              have HM5 := hidI (blk hb5 HM.out)
              have HO5 := hidI (ownsRow_chg HO.out (Chg.of_below (S := fun _ => False) hb5) (fun _ _ e => e))
              have HCI5 := hidI (HCI.out.below hb5)
              have HSZ5 := hidI (Nat.le_trans HSZ.out hb5.size)
              have HWS := hidI hb5.size
              clear hb5 d0 q0 q1 q2
              rcases hpost with ⟨rfl, hno⟩ | ⟨k, p, hk, hp, hpd, hok, hpost⟩
              · have HNO := hidI (show okRows words rows = false from by
                  cases hq : okRows words rows with
                  | false => rfl
                  | true => exact absurd ⟨HPM.out.1, by omega, by have := HPM.out.2; omega, hq⟩ hno)
                clear hno
                have r0 : w5.cell? ⟨br, 0, none⟩ = some (.slice none 0 0) := cell_of_block HR5.out rfl
                have r1 : w5.cell? ⟨br, 1, none⟩ = some (.int .i64 0) := cell_of_block HR5.out rfl
                have r2 : w5.cell? ⟨br, 2, none⟩ = some (.slice none 0 0) := cell_of_block HR5.out rfl
                have rf0 : w5.frozen? ⟨br, 0, none⟩ = false := free_of_block HR5.out
                have rf1 : w5.frozen? ⟨br, 1, none⟩ = false := free_of_block HR5.out
                have rf2 : w5.frozen? ⟨br, 2, none⟩ = false := free_of_block HR5.out
                go_wp2_with fail
                have HBE := hidI (show Below w.heap.size w (((w5.setCell ⟨br, 0, none⟩ (.slice none 0 0)).setCell ⟨br, 1, none⟩ (.int .i64 0)).setCell ⟨br, 2, none⟩ (.slice none 0 0)) from ((HB5.out.setCell (p := ⟨br, 0, none⟩) (Nat.le_of_eq HBR.out.symm) _).setCell (p := ⟨br, 1, none⟩) (Nat.le_of_eq HBR.out.symm) _).setCell (p := ⟨br, 2, none⟩) (Nat.le_of_eq HBR.out.symm) _)
                have hfin := block_setCell (o := 2) (.slice none 0 0) (block_setCell (o := 1) (.int .i64 0) (block_setCell (o := 0) (.slice none 0 0) HR5.out))
                generalize (((w5.setCell ⟨br, 0, none⟩ (.slice none 0 0)).setCell ⟨br, 1, none⟩ (.int .i64 0)).setCell ⟨br, 2, none⟩ (.slice none 0 0)) = w9 at HBE hfin ⊢
                have k0 : w9.cell? ⟨br, 0, none⟩ = some (.slice none 0 0) := cell_of_block hfin rfl
                have k1 : w9.cell? ⟨br, 1, none⟩ = some (.int .i64 0) := cell_of_block hfin rfl
                have k2 : w9.cell? ⟨br, 2, none⟩ = some (.slice none 0 0) := cell_of_block hfin rfl
                clear hfin r0 r1 r2 rf0 rf1 rf2
                refine bodyPost_ret (v := .tuple #[.agg #[.slice none 0 0, .int .i64 0, .slice none 0 0], .int .i64 1]) (by simp [results, Tryz.results11, go_sem, k0, k1, k2]) rfl ?_
                exact ⟨HBE.out, .inl ⟨1, rfl, .inl ⟨rfl, .inr ⟨_, List.mem_of_getElem? HX.out, HNO.out⟩⟩⟩⟩
              · obtain rfl : k = j := by omega
                have htx : txOf words ms p k = imgTx words ts.length k := by
                  unfold imgTx imgSize imgPs
                  rw [← HMP.out, ← HMS.out, List.getD_eq_getElem?_getD, hp]
                  rfl
                rw [htx] at hpost
                have HOK5 := hidI hok
                clear hk hp hpd htx hok
                rcases hpost with ⟨rfl, jj, hjj, hov⟩ | ⟨g, rfl, hg, hge, hov, hfew⟩
                · have HOV := hidI (show Fail3 words ts from .inr (.inr (.inl ⟨k, _, jj, HX.out, hjj, hov⟩)))
                  clear hjj hov
                  have r0 : w5.cell? ⟨br, 0, none⟩ = some (.slice none 0 0) := cell_of_block HR5.out rfl
                  have r1 : w5.cell? ⟨br, 1, none⟩ = some (.int .i64 0) := cell_of_block HR5.out rfl
                  have r2 : w5.cell? ⟨br, 2, none⟩ = some (.slice none 0 0) := cell_of_block HR5.out rfl
                  have rf0 : w5.frozen? ⟨br, 0, none⟩ = false := free_of_block HR5.out
                  have rf1 : w5.frozen? ⟨br, 1, none⟩ = false := free_of_block HR5.out
                  have rf2 : w5.frozen? ⟨br, 2, none⟩ = false := free_of_block HR5.out
                  go_wp2_with fail
                  have HBE := hidI (show Below w.heap.size w (((w5.setCell ⟨br, 0, none⟩ (.slice none 0 0)).setCell ⟨br, 1, none⟩ (.int .i64 0)).setCell ⟨br, 2, none⟩ (.slice none 0 0)) from ((HB5.out.setCell (p := ⟨br, 0, none⟩) (Nat.le_of_eq HBR.out.symm) _).setCell (p := ⟨br, 1, none⟩) (Nat.le_of_eq HBR.out.symm) _).setCell (p := ⟨br, 2, none⟩) (Nat.le_of_eq HBR.out.symm) _)
                  have hfin := block_setCell (o := 2) (.slice none 0 0) (block_setCell (o := 1) (.int .i64 0) (block_setCell (o := 0) (.slice none 0 0) HR5.out))
                  generalize (((w5.setCell ⟨br, 0, none⟩ (.slice none 0 0)).setCell ⟨br, 1, none⟩ (.int .i64 0)).setCell ⟨br, 2, none⟩ (.slice none 0 0)) = w9 at HBE hfin ⊢
                  have k0 : w9.cell? ⟨br, 0, none⟩ = some (.slice none 0 0) := cell_of_block hfin rfl
                  have k1 : w9.cell? ⟨br, 1, none⟩ = some (.int .i64 0) := cell_of_block hfin rfl
                  have k2 : w9.cell? ⟨br, 2, none⟩ = some (.slice none 0 0) := cell_of_block hfin rfl
                  clear hfin r0 r1 r2 rf0 rf1 rf2
                  refine bodyPost_ret (v := .tuple #[.agg #[.slice none 0 0, .int .i64 0, .slice none 0 0], .int .i64 3]) (by simp [results, Tryz.results11, go_sem, k0, k1, k2]) rfl ?_
                  exact ⟨HBE.out, .inl ⟨3, rfl, .inr ⟨rfl, HOV.out⟩⟩⟩
                · obtain ⟨D, hD⟩ : ∃ D, D = (rowsCd (imgTx words ts.length k) (rows.map Prod.snd)).halt.done := ⟨_, rfl⟩
                  have hDl : D.length = (rowsCd (imgTx words ts.length k) (rows.map Prod.snd)).halt.ops.length := by rw [hD, done_len]
                  rw [← hD] at hg
                  rw [← hDl] at hfew ⊢
                  have HCA5 := hidI (HCA.out.snoc (p := (g, D)) HX.out ⟨hD, hov⟩)
                  have HOK6 := hidI (show ∀ t ∈ ts.take (k + 1), okRows words t.2 = true from fun t ht => by
                    rw [HTK.out] at ht
                    rcases List.mem_append.1 ht with ht | ht
                    · exact HOK.out t ht
                    · simp at ht; subst ht; exact HOK5.out)
                  have HLS := hidI (show lenSum (cs ++ [(g, D)]) = lenSum cs + D.length from by unfold lenSum; rw [List.map_append, List.sum_append]; simp)
                  have HCI6 := hidI (show CodesIn w5 (bm + 1) (cs ++ [(g, D)]) from ⟨fun p hp => by
                    rcases List.mem_append.1 hp with hp | hp
                    · exact HCI5.out.blk p hp
                    · simp at hp; subst hp; exact ⟨hg, Nat.le_trans HSZ.out hge⟩, by
                    rw [List.map_append, List.nodup_append]
                    refine ⟨HCI5.out.inj, by simp, fun a ha b hb => ?_⟩
                    simp at hb
                    subst hb
                    obtain ⟨p, hp, rfl⟩ := List.mem_map.1 ha
                    have h1 := lt_of_block (HCI.out.blk p hp).1
                    omega⟩)
                  have HFEW := hidI hfew
                  have hsum := HSUM.out
                  have e2 : IntKind.i64.wrap ((lenSum cs : Int) + (D.length : Int)) = (lenSum cs : Int) + (D.length : Int) := IntWalk.i64_in _ (by omega)
                  clear hD hDl hg hge hov
                  by_cases hbig : 262144 < lenSum cs + D.length
                  · have hd : (lenSum cs : Int) + (D.length : Int) > 262144 := by omega
                    have HOV := hidI (show Fail3 words ts from .inr (.inr (.inr ⟨k + 1, _, by omega, HCA5.out, by rw [HLS.out]; exact hbig⟩)))
                    clear hbig hsum hfew
                    have r0 : w5.cell? ⟨br, 0, none⟩ = some (.slice none 0 0) := cell_of_block HR5.out rfl
                    have r1 : w5.cell? ⟨br, 1, none⟩ = some (.int .i64 0) := cell_of_block HR5.out rfl
                    have r2 : w5.cell? ⟨br, 2, none⟩ = some (.slice none 0 0) := cell_of_block HR5.out rfl
                    have rf0 : w5.frozen? ⟨br, 0, none⟩ = false := free_of_block HR5.out
                    have rf1 : w5.frozen? ⟨br, 1, none⟩ = false := free_of_block HR5.out
                    have rf2 : w5.frozen? ⟨br, 2, none⟩ = false := free_of_block HR5.out
                    go_wp2_with fail
                    have HBE := hidI (show Below w.heap.size w (((w5.setCell ⟨br, 0, none⟩ (.slice none 0 0)).setCell ⟨br, 1, none⟩ (.int .i64 0)).setCell ⟨br, 2, none⟩ (.slice none 0 0)) from ((HB5.out.setCell (p := ⟨br, 0, none⟩) (Nat.le_of_eq HBR.out.symm) _).setCell (p := ⟨br, 1, none⟩) (Nat.le_of_eq HBR.out.symm) _).setCell (p := ⟨br, 2, none⟩) (Nat.le_of_eq HBR.out.symm) _)
                    have hfin := block_setCell (o := 2) (.slice none 0 0) (block_setCell (o := 1) (.int .i64 0) (block_setCell (o := 0) (.slice none 0 0) HR5.out))
                    generalize (((w5.setCell ⟨br, 0, none⟩ (.slice none 0 0)).setCell ⟨br, 1, none⟩ (.int .i64 0)).setCell ⟨br, 2, none⟩ (.slice none 0 0)) = w9 at HBE hfin ⊢
                    have k0 : w9.cell? ⟨br, 0, none⟩ = some (.slice none 0 0) := cell_of_block hfin rfl
                    have k1 : w9.cell? ⟨br, 1, none⟩ = some (.int .i64 0) := cell_of_block hfin rfl
                    have k2 : w9.cell? ⟨br, 2, none⟩ = some (.slice none 0 0) := cell_of_block hfin rfl
                    clear hfin r0 r1 r2 rf0 rf1 rf2
                    refine bodyPost_ret (v := .tuple #[.agg #[.slice none 0 0, .int .i64 0, .slice none 0 0], .int .i64 3]) (by simp [results, Tryz.results11, go_sem, k0, k1, k2]) rfl ?_
                    exact ⟨HBE.out, .inl ⟨3, rfl, .inr ⟨rfl, HOV.out⟩⟩⟩
                  · have hd : ¬ ((lenSum cs : Int) + (D.length : Int) > 262144) := by omega
                    have HBIG := hidI hbig
                    clear hbig hsum hfew
                    have m0 : w5.cell? ⟨bm, 0, none⟩ = some (.slice co k cc) := cell_of_block HM5.out rfl
                    obtain ⟨i1, hi, hz0, hz1, hz2⟩ := info_parts emCodeInfo
                    go_wp2_with (at_builtin; refine Hid.out ?_)
                    refine wpList_append_d _ rfl _ _ 27 rfl (bm + 1) 57 i1 _ 1 24 Tryz.underlying27 hi hz0 hz1 hz2 rfl (by decide) (.slice co k cc) k _ (by simp [Act.eval]) (ownsRow_chg HO5.out ((Chg.refl (fun _ => False) w5).alloc _) (fun _ _ => id)) ⟨w5.heap.size, 0, none⟩ 1 1 [codeV1 (g, D)] (by simp [Act.eval]) rfl ?c1 ?c2 ?c3 ?c4 ?c5 ?_
                    case c1 => exact news_at (block_new _ _)
                    case c2 => intro u hu; simp at hu; subst hu; rfl
                    case c3 => unfold maxLen; omega
                    case c4 => omega
                    case c5 => have := HSZ5.out; simp; omega
                    intro ao6 cp6 w6 hown hfrom hgrown
                    have hc6 : Chg (fun q => (Value.slice co k cc).ownBlock = some q) w5 w6 := ((Chg.refl (fun q => (Value.slice co k cc).ownBlock = some q) w5).alloc _).grown hgrown (fun q hq => .inl hq)
                    have hbq := HBQ.out
                    have hlow : ∀ q, (Value.slice co k cc).ownBlock = some q → bm + 1 ≤ q := fun q hq => (HO5.out.lt q hq).1
                    have hm6 := chgblk hc6 HM5.out (fun e => by have := hlow _ e; omega)
                    have hq6 := chgblk hc6 HQ5.out (fun e => by have := hlow _ e; omega)
                    have hr6 := chgblk hc6 HR5.out (fun e => by have := hlow _ e; omega)
                    have m1 : w6.cell? ⟨bm, 0, none⟩ = some (.slice co k cc) := cell_of_block hm6 rfl
                    have m2 : w6.frozen? ⟨bm, 0, none⟩ = false := free_of_block hm6
                    have hp6 := ownsRow_chg HPR5.out hc6 (fun q hq => rows_ne HPR5.out hq (ownsRow_mono HO5.out (Nat.zero_le _)) (by decide))
                    have hcb : Chg (fun q => q = bm) w6 (w6.setCell ⟨bm, 0, none⟩ (.slice ao6 (k + 1) cp6)) := (Chg.refl (fun q => q = bm) w6).setCell (p := ⟨bm, 0, none⟩) (.inl rfl) _
                    have HM7 := hidI (block_setCell (o := 0) (.slice ao6 (k + 1) cp6) hm6)
                    have HQ7 := hidI (chgblk hcb hq6 (by omega))
                    have HR7 := hidI (chgblk hcb hr6 (by omega))
                    have HP7 := hidI (ownsRow_chg hp6 hcb (fun q hq => row_ne hp6 hq hm6 (by decide)))
                    have HO7 := hidI (show (w6.setCell ⟨bm, 0, none⟩ (.slice ao6 (k + 1) cp6)).ownsRow (bm + 1) 57 1 (.slice ao6 (k + 1) cp6) (k + 1) ((cs ++ [(g, D)]).map codeV1) from by
                      rw [List.map_append]
                      exact ownsRow_chg hown hcb (fun q hq e => by have := (hown.lt q hq).1; omega))
                    have HCI7 := hidI (show CodesIn (w6.setCell ⟨bm, 0, none⟩ (.slice ao6 (k + 1) cp6)) (bm + 1) (cs ++ [(g, D)]) from ⟨fun p hp => by
                      obtain ⟨h1, h2⟩ := HCI6.out.blk p hp
                      refine ⟨chgblk hcb (chgblk hc6 h1 (fun e => row_ne HO5.out e h1 (by decide) rfl)) (by omega), h2⟩, HCI6.out.inj⟩)
                    have HB7 := hidI (show Below w.heap.size w (w6.setCell ⟨bm, 0, none⟩ (.slice ao6 (k + 1) cp6)) from (hc6.below HB5.out HB5.out.size (fun q hq => by have := hlow q hq; omega)).setCell (p := ⟨bm, 0, none⟩) (by show w.heap.size ≤ bm; omega) _)
                    have HSZ7 := hidI (show bm + 1 ≤ (w6.setCell ⟨bm, 0, none⟩ (.slice ao6 (k + 1) cp6)).heap.size from Nat.le_trans HSZ5.out (Nat.le_trans hc6.size hcb.size))
                    have HLEN7 := hidI (show (cs ++ [(g, D)]).length = k + 1 from by rw [List.length_append, HCL.out]; rfl)
                    have HSUM7 := hidI (show lenSum (cs ++ [(g, D)]) ≤ 262144 from by rw [HLS.out]; have := HBIG.out; omega)
                    have hw1 : IntKind.i64.wrap ((k : Int) + 1) = k + 1 := IntWalk.i64_in _ (by omega)
                    clear hown hfrom hgrown hc6 hm6 hq6 hr6 hp6 hcb hlow hbq m0 hi hz0 hz1 hz2
                    go_wp2_with fail
                    exact ⟨⟨k + 1, _, ao6, cp6, by omega, by go_num, by rw [HLS.out]; rfl, HLEN7, HSUM7, HM7, HO7, HCI7, HCA5, HOK6, HQ7, HR7, HB7, HP7, HSZ7⟩, by simp [intOf]; omega⟩
            · obtain rfl : j = ts.length := by omega
              have hbq := HBQ.out
              have hm := HM.out
              have m0 : wr.cell? ⟨bm, 0, none⟩ = some (.slice co ts.length cc) := cell_of_block hm rfl
              have m1 : wr.cell? ⟨bm, 1, none⟩ = some (.int .i64 ms) := cell_of_block hm rfl
              have m2 : wr.cell? ⟨bm, 2, none⟩ = some (.slice none 0 0) := cell_of_block hm rfl
              have HALL := hidI (show ∀ t ∈ ts, okRows words t.2 = true from fun t ht => HOK.out t (by rw [List.take_length]; exact ht))
              have HCA9 := hidI (show CodesAre words ts.length ts cs from by have h9 := HCA.out; rw [List.take_length] at h9; exact h9)
              clear hm hbq
              have r0 : wr.cell? ⟨br, 0, none⟩ = some (.slice none 0 0) := cell_of_block HR9.out rfl
              have r1 : wr.cell? ⟨br, 1, none⟩ = some (.int .i64 0) := cell_of_block HR9.out rfl
              have r2 : wr.cell? ⟨br, 2, none⟩ = some (.slice none 0 0) := cell_of_block HR9.out rfl
              have rf0 : wr.frozen? ⟨br, 0, none⟩ = false := free_of_block HR9.out
              have rf1 : wr.frozen? ⟨br, 1, none⟩ = false := free_of_block HR9.out
              have rf2 : wr.frozen? ⟨br, 2, none⟩ = false := free_of_block HR9.out
              go_wp2_with fail
              have HBE := hidI (show Below w.heap.size w (((wr.setCell ⟨br, 0, none⟩ (.slice co ts.length cc)).setCell ⟨br, 1, none⟩ (.int .i64 ms)).setCell ⟨br, 2, none⟩ (.slice none 0 0)) from ((HB9.out.setCell (p := ⟨br, 0, none⟩) (Nat.le_of_eq HBR.out.symm) _).setCell (p := ⟨br, 1, none⟩) (Nat.le_of_eq HBR.out.symm) _).setCell (p := ⟨br, 2, none⟩) (Nat.le_of_eq HBR.out.symm) _)
              have hfin := block_setCell (o := 2) (.slice none 0 0) (block_setCell (o := 1) (.int .i64 ms) (block_setCell (o := 0) (.slice co ts.length cc) HR9.out))
              have hcb9 : Chg (fun q => q = br) wr (((wr.setCell ⟨br, 0, none⟩ (.slice co ts.length cc)).setCell ⟨br, 1, none⟩ (.int .i64 ms)).setCell ⟨br, 2, none⟩ (.slice none 0 0)) := (((Chg.refl (fun q => q = br) wr).setCell (p := ⟨br, 0, none⟩) (.inl rfl) _).setCell (p := ⟨br, 1, none⟩) (.inl rfl) _).setCell (p := ⟨br, 2, none⟩) (.inl rfl) _
              have HO9 := hidI (ownsRow_chg HO.out hcb9 (fun q hq e => by have := (HO.out.lt q hq).1; have := HBQ.out; omega))
              have HC9 := hidI (show ∀ p ∈ cs, ((((wr.setCell ⟨br, 0, none⟩ (.slice co ts.length cc)).setCell ⟨br, 1, none⟩ (.int .i64 ms)).setCell ⟨br, 2, none⟩ (.slice none 0 0))).heap[p.1]? = some (.cells (p.2.flatMap encOp).toArray 107 (0, 0)) ∧ bm + 1 ≤ p.1 from fun p hp => ⟨chgblk hcb9 (HCI.out.blk p hp).1 (by have := (HCI.out.blk p hp).2; have := HBQ.out; omega), (HCI.out.blk p hp).2⟩)
              clear hcb9
              generalize (((wr.setCell ⟨br, 0, none⟩ (.slice co ts.length cc)).setCell ⟨br, 1, none⟩ (.int .i64 ms)).setCell ⟨br, 2, none⟩ (.slice none 0 0)) = w9 at HBE hfin HO9 HC9 ⊢
              have k0 : w9.cell? ⟨br, 0, none⟩ = some (.slice co ts.length cc) := cell_of_block hfin rfl
              have k1 : w9.cell? ⟨br, 1, none⟩ = some (.int .i64 ms) := cell_of_block hfin rfl
              have k2 : w9.cell? ⟨br, 2, none⟩ = some (.slice none 0 0) := cell_of_block hfin rfl
              clear hfin r0 r1 r2 rf0 rf1 rf2
              refine bodyPost_ret (v := .tuple #[.agg #[.slice co ts.length cc, .int .i64 ms, .slice none 0 0], .int .i64 0]) (by simp [results, Tryz.results11, go_sem, k0, k1, k2]) rfl ?_
              refine ⟨HBE.out, .inr ⟨co, cc, cs, ?_, ?_, ?_, HCA9.out, HSUM.out, HME.out.symm, by have := H4.out; omega, HALL.out⟩⟩
              · rw [HCL.out, HMS.out]; rfl
              · rw [HCL.out]; exact ownsRow_mono HO9.out (by have := HBQ.out; omega)
              · exact ⟨fun p hp => ⟨(HC9.out p hp).1, by have := (HC9.out p hp).2; have := HBQ.out; omega⟩, HCI.out.inj⟩
        · have hd : (me != 0) = true := by simpa using he
          have HE := hidI he
          have HB3 := hidI (HB2.out.alloc HB2.out.size (.cells #[.int .i64 mw, .slice mo mp.length mc, .int .i64 ms] 46))
          have HR3 := hidI (block_alloc (o := (.cells #[.int .i64 mw, .slice mo mp.length mc, .int .i64 ms] 46)) HR2.out)
          clear he
          go_upto_region 10 with fail
          generalize w2.alloc (.cells #[.int .i64 mw, .slice mo mp.length mc, .int .i64 ms] 46) = w3 at HB3 HR3 ⊢
          have r0 : w3.cell? ⟨br, 0, none⟩ = some (.slice none 0 0) := cell_of_block HR3.out rfl
          have r1 : w3.cell? ⟨br, 1, none⟩ = some (.int .i64 0) := cell_of_block HR3.out rfl
          have r2 : w3.cell? ⟨br, 2, none⟩ = some (.slice none 0 0) := cell_of_block HR3.out rfl
          have rf0 : w3.frozen? ⟨br, 0, none⟩ = false := free_of_block HR3.out
          have rf1 : w3.frozen? ⟨br, 1, none⟩ = false := free_of_block HR3.out
          have rf2 : w3.frozen? ⟨br, 2, none⟩ = false := free_of_block HR3.out
          go_wp2_with fail
          have HBE := hidI (show Below w.heap.size w (((w3.setCell ⟨br, 0, none⟩ (.slice none 0 0)).setCell ⟨br, 1, none⟩ (.int .i64 0)).setCell ⟨br, 2, none⟩ (.slice none 0 0)) from ((HB3.out.setCell (p := ⟨br, 0, none⟩) (Nat.le_of_eq HBR.out.symm) _).setCell (p := ⟨br, 1, none⟩) (Nat.le_of_eq HBR.out.symm) _).setCell (p := ⟨br, 2, none⟩) (Nat.le_of_eq HBR.out.symm) _)
          have hfin := block_setCell (o := 2) (.slice none 0 0) (block_setCell (o := 1) (.int .i64 0) (block_setCell (o := 0) (.slice none 0 0) HR3.out))
          generalize (((w3.setCell ⟨br, 0, none⟩ (.slice none 0 0)).setCell ⟨br, 1, none⟩ (.int .i64 0)).setCell ⟨br, 2, none⟩ (.slice none 0 0)) = w4 at HBE hfin ⊢
          have k0 : w4.cell? ⟨br, 0, none⟩ = some (.slice none 0 0) := cell_of_block hfin rfl
          have k1 : w4.cell? ⟨br, 1, none⟩ = some (.int .i64 0) := cell_of_block hfin rfl
          have k2 : w4.cell? ⟨br, 2, none⟩ = some (.slice none 0 0) := cell_of_block hfin rfl
          clear hfin r0 r1 r2 rf0 rf1 rf2
          refine bodyPost_ret (v := .tuple #[.agg #[.slice none 0 0, .int .i64 0, .slice none 0 0], .int .i64 me]) (by simp [results, Tryz.results11, go_sem, k0, k1, k2]) rfl ?_
          refine ⟨HBE.out, .inl ⟨me, rfl, ?_⟩⟩
          rcases HMC.out with h9 | ⟨h9, h8⟩ | h9
          · exact absurd (by rw [HME.out]; exact h9) HE.out
          · exact .inl ⟨by rw [HME.out]; exact h9, .inl h8⟩
          · exact .inr ⟨by rw [HME.out]; exact h9, .inr (.inl h9)⟩
end

end Go.Proofs.YtopdcjimpdalpaaGreat

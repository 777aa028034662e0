/- Put together by merge.py out of XPickS.lean.tpl, XCutA.lean.tpl, XCutB.lean.tpl, XCutP.lean.tpl, XTwinPick.lean.tpl, XBookZ.lean.tpl, XBkPick.lean.tpl, XCutK.lean.tpl, XCut.lean.tpl, XCutV2.lean.tpl. -/
import Derived.Test.YtmjppdlhglkelaaGreatDoorPlayC
import Derived.Test.YtmjppdlhglkelaaGreatDoorMake
import Derived.Test.YtmjppdlhglkelaaGreatDoorBookPick
import Derived.Test.YtmjppdlhglkelaaGreatDoorBookR
import Derived.Test.YtmjppdlhglkelaaGreatDoorBookApartPick
import Derived.Test.YtmjppdlhglkelaaGreatDoorBeyond
import Derived.Test.YtmjppdlhglkelaaGreatDoorPlayL
import Derived.Test.YtmjppdlhglkelaaGreatDoorWrap
import Derived.ProofKit
import Derived.ChangeMaps5
import Derived.Lib.SmallJoins
namespace Go.Proofs.YtmjppdlhglkelaaGreatDoor
open Go.RowKit
set_option linter.unusedVariables false
set_option linter.unusedSimpArgs false

section
set_option maxHeartbeats 1000000 in
theorem samePicksE_true {w : World} {ao bo : Option Addr} {n m ca cb : Nat} {l : List PickD} (ha : Rd w 3 (.slice ao n ca) n (l.flatMap encPk)) (hb : Rd w 3 (.slice bo m cb) m (l.flatMap encPk)) (hn : n = l.length) (hm : m = l.length) (hl : l.length ≤ 9223372036854775807) :
    Calls Tryz.prog 10 #[.slice ao n ca, .slice bo m cb] w fun e w' => e = .returned (.bool true) ∧ Below w.heap.size w w' := by
  subst hn; subst hm
  have HA : Hid (RdT encPk w 3 (.slice ao l.length ca) l) := hidI ha
  have HB : Hid (RdT encPk w 3 (.slice bo l.length cb) l) := hidI hb
  clear ha hb
  go_enter Tryz.func10, Tryz.ntmps10
  go_wp2
  go_loopw [13] (fun i wr => ∃ k n : Nat, k ≤ l.length ∧ i = .int .i64 k ∧ wr = w.drewN n) (fun i _ => l.length - (intOf i).toNat)
  case atStart => exact ⟨0, 0, Nat.zero_le _, rfl, rfl⟩
  case round =>
    obtain ⟨k, n, hk, rfl, rfl⟩ := hrel
    by_cases hlt : k < l.length
    · obtain ⟨x, hx⟩ := some_at hlt
      obtain ⟨b1, o1, rfl, hs1, hc1⟩ := HA.out.at encPk_len hx
      obtain ⟨b2, o2, rfl, hs2, hc2⟩ := HB.out.at encPk_len hx
      have x0 := hc1 0 _ rfl
      have x1 := hc1 1 _ rfl
      have x2 := hc1 2 _ rfl
      have y0 := hc2 0 _ rfl
      have y1 := hc2 1 _ rfl
      have y2 := hc2 2 _ rfl
      simp only [Nat.add_zero] at x0 y0
      clear hc1 hc2 hx hs1 hs2
      go_wp2_with fail
      go_quiet (fail)
      go_wp2
      exact ⟨⟨k + 1, _, by omega, by go_num, rfl⟩, by simp [intOf]; omega⟩
    · obtain rfl : k = l.length := by omega
      go_wp2
      go_ret
      exact ⟨rfl, below_drewN (Below.refl _ _) n⟩
theorem samePicksT_true {w : World} {ao bo : Option Addr} {ca cb : Nat} {l : List PickD} (ha : RdT encPk w 3 (.slice ao l.length ca) l) (hb : RdT encPk w 3 (.slice bo l.length cb) l) (hm : l.length ≤ 9223372036854775807) :
    Calls Tryz.prog 10 #[.slice ao l.length ca, .slice bo l.length cb] w fun e w' => e = .returned (.bool true) ∧ Below w.heap.size w w' :=
  samePicksE_true ha hb rfl rfl hm
end

section
variable {w w' : World} {base : Nat}

theorem may_any (w : World) (p : PickD) :
    Calls Tryz.prog 18 #[.agg #[.int .u8 p.kind, .int .i64 p.th, .int .i64 p.n]] w fun e w' => e = .returned (.bool (!pbad p)) ∧ Below w.heap.size w w' := by
  have hv : (!pbad p) = (decide (p.kind ≤ 2) && decide (p.n ≥ 0)) := by
    unfold pbad
    rw [Bool.eq_iff_iff]
    simp
  by_cases h1 : p.kind ≤ 2
  · by_cases h2 : p.n ≥ 0
    · have hr : (!pbad p) = true := by rw [hv]; simp [h1]; omega
      have HR := hidI hr
      clear hr hv
      go_enter Tryz.func18, Tryz.ntmps18
      go_wp2_with fail
      go_ret
      rw [HR.out]
      exact ⟨rfl, (Below.refl _ _).alloc (Nat.le_refl _) _⟩
    · have hr : (!pbad p) = false := by rw [hv]; simp; omega
      have HR := hidI hr
      clear hr hv
      go_enter Tryz.func18, Tryz.ntmps18
      go_wp2_with fail
      go_ret
      rw [HR.out]
      exact ⟨rfl, (Below.refl _ _).alloc (Nat.le_refl _) _⟩
  · have hr : (!pbad p) = false := by rw [hv]; simp; omega
    have HR := hidI hr
    clear hr hv
    go_enter Tryz.func18, Tryz.ntmps18
    go_wp2_with fail
    go_ret
    rw [HR.out]
    exact ⟨rfl, (Below.refl _ _).alloc (Nat.le_refl _) _⟩

set_option maxHeartbeats 1000000 in
theorem longR_any (w : World) (p : PickD) (hn : 0 ≤ p.n) :
    Calls Tryz.prog 19 #[.agg #[.int .u8 p.kind, .int .i64 p.th, .int .i64 p.n], .int .i64 1048576] w fun e w' => e = .returned (.int .i64 (min (plen p) 1048577)) ∧ Below w.heap.size w w' := by
  go_enter Tryz.func19, Tryz.ntmps19
  by_cases hk : p.kind = 2
  · go_wp2_with fail
    all_goals
      go_ret
      refine ⟨?_, (Below.refl _ _).alloc (Nat.le_refl _) _⟩
      simp [plen, wrap64, hk] at *
      omega
  · go_wp2_with fail
    all_goals
      go_ret
      refine ⟨?_, (Below.refl _ _).alloc (Nat.le_refl _) _⟩
      simp [plen, hk] at *
      omega

set_option maxHeartbeats 1000000 in
theorem lengthR_any {ao : Option Addr} {cap : Nat} {l : List PickD} (h : RdT encPk w 3 (.slice ao l.length cap) l) (hm : l.length ≤ 9000000000000) :
    Calls Tryz.prog 8 #[.slice ao l.length cap] w fun e w' => e = .returned (.tuple #[.int .i64 (lengthS l).1, .int .i64 (lengthS l).2]) ∧ Below w.heap.size w w' := by
  have H := hidI h
  clear h
  go_enter Tryz.func8, Tryz.ntmps8
  by_cases hb : 65536 < l.length
  · go_wp2_with fail
    go_ret2
    unfold lengthS
    rw [if_pos hb]
    exact ⟨rfl, Below.refl _ _⟩
  · have h1 : ¬ ((l.length : Int) > 65536) := by omega
    go_wp2_with fail
    go_loopw [4] (fun i w' => ∃ k : Nat, k ≤ l.length ∧ i = .int .i64 (k : Int) ∧ Hid (Below w.heap.size w w') ∧ Hid ((l.take k).any pbad = false)) (fun i _ => ((l.length : Int) - intOf i).toNat)
    case atStart => exact ⟨0, by omega, rfl, hidI (Below.refl _ _), hidI rfl⟩
    case round =>
      obtain ⟨k, hk, rfl, HB, hall⟩ := hrel
      by_cases hlt : k < l.length
      · obtain ⟨x, hx⟩ := some_at hlt
        obtain ⟨b1, o1, rfl, hs1, hc1⟩ := RdT.at encPk_len (Rd.below H.out HB.out) hx
        have x0 := hc1 0 _ rfl
        have x1 := hc1 1 _ rfl
        have x2 := hc1 2 _ rfl
        simp only [Nat.add_zero] at x0
        clear hc1 hs1
        have HX := hidI hx
        clear hx
        go_wp2_with fail
        refine (may_any _ x).mono ?_
        rintro e w2 ⟨rfl, hb2⟩
        have HB2 := hidI (bnext HB.out hb2)
        clear hb2
        by_cases hbad : pbad x = true
        · have hv : lengthS l = (0, 1) := by unfold lengthS; rw [if_neg hb, if_pos (List.any_eq_true.2 ⟨x, List.mem_of_getElem? HX.out, hbad⟩)]
          have HV := hidI hv
          rw [hbad]
          clear hv hall hbad
          go_wp2_with fail
          go_ret2
          rw [HV.out]
          exact ⟨rfl, HB2.out⟩
        · have hbad' : pbad x = false := by simpa using hbad
          have HBAD := hidI hbad'
          rw [hbad']
          clear hbad hbad'
          go_wp2_with fail
          refine ⟨⟨k + 1, by omega, by go_num, HB2, hidI ?_⟩, by simp [intOf]; omega⟩
          rw [take_snoc HX.out, List.any_append, hall.out]
          simpa using HBAD.out
      · obtain rfl : k = l.length := by omega
        have hall' := hall.out
        rw [List.take_length] at hall'
        have HA := hidI hall'
        clear hall hall'
        obtain ⟨w1, rfl⟩ : ∃ w1, w1 = wr := ⟨_, rfl⟩
        go_wp2_with fail
        go_loopw [5, 6] (fun nv i w' => ∃ k : Nat, k ≤ l.length ∧ i = .int .i64 (k : Int) ∧ nv = .int .i64 (total (l.take k)) ∧ total (l.take k) ≤ 1048576 ∧ Hid (Below w.heap.size w w')) (fun nv i _ => ((l.length : Int) - intOf i).toNat)
        case atStart => exact ⟨0, by omega, rfl, rfl, by simp [total], HB⟩
        case round =>
          obtain ⟨k, hk, rfl, rfl, htot, HB⟩ := hrel
          by_cases hlt : k < l.length
          · obtain ⟨x, hx⟩ := some_at hlt
            obtain ⟨b1, o1, rfl, hs1, hc1⟩ := RdT.at encPk_len (Rd.below H.out HB.out) hx
            have x0 := hc1 0 _ rfl
            have x1 := hc1 1 _ rfl
            have x2 := hc1 2 _ rfl
            simp only [Nat.add_zero] at x0
            have hbx : pbad x = false := by
              have := List.any_eq_false.1 HA.out x (List.mem_of_getElem? hx)
              simpa using this
            have hng : 0 ≤ x.n := by unfold pbad at hbx; simp at hbx; omega
            have hp0 := plen_ge hbx
            have hp1 := plen_le x
            have ht0 : 0 ≤ total (l.take k) := total_ge (by
              refine List.any_eq_false.2 fun y hy => ?_
              exact List.any_eq_false.1 HA.out y (List.mem_of_mem_take hy))
            have hsn : total (l.take (k + 1)) = total (l.take k) + plen x := by rw [take_snoc hx, total_snoc]
            have hle : total (l.take (k + 1)) ≤ total l := by
              have h1 := total_app (l.take (k + 1)) (l.drop (k + 1))
              rw [List.take_append_drop] at h1
              have : 0 ≤ total (l.drop (k + 1)) := total_ge (by
                refine List.any_eq_false.2 fun y hy => ?_
                exact List.any_eq_false.1 HA.out y (List.mem_of_mem_drop hy))
              omega
            have HLE := hidI hle
            have HX := hidI hx
            clear hc1 hs1 hx hbx hle
            go_wp2_with fail
            refine (longR_any _ x hng).mono ?_
            rintro e w2 ⟨rfl, hb2⟩
            have HB2 := hidI (bnext HB.out hb2)
            clear hb2
            have hs9 := hidI hsn
            clear hsn
            generalize hT : total (l.take k) = T at *
            generalize hP : plen x = pl at *
            obtain ⟨m, hm⟩ : ∃ m, m = min pl 1048577 := ⟨_, rfl⟩
            rw [← hm]
            have hm0 : 0 ≤ m := by omega
            have hm1 : m ≤ 1048577 := by omega
            have HM := hidI hm
            clear hT hP hm
            by_cases hgt : T + m > 1048576
            · go_wp2_with fail
              go_ret2
              have hv : lengthS l = (0, 3) := by unfold lengthS; rw [if_neg hb, if_neg (by rw [HA.out]; decide), if_pos (by have := HLE.out; have := hs9.out; have := HM.out; omega)]
              rw [hv]
              exact ⟨rfl, HB2.out⟩
            · go_wp2_with fail
              exact ⟨⟨k + 1, by omega, by go_num, by rw [hs9.out, show m = pl from by have := HM.out; omega], by have := hs9.out; have := HM.out; omega, HB2⟩, by simp [intOf]; omega⟩
          · obtain rfl : k = l.length := by omega
            go_wp2_with fail
            go_ret2
            rw [List.take_length] at htot ⊢
            refine ⟨?_, HB.out⟩
            have hv : lengthS l = (total l, 0) := by unfold lengthS; rw [if_neg hb, if_neg (by rw [HA.out]; decide), if_neg (by omega)]
            rw [hv]
            rfl

set_option maxHeartbeats 1000000 in
theorem putR_any {l : List PickD} {v : Value} (h : w.ownsRow base 66 3 v l.length (l.flatMap encPk)) (hb : base ≤ w.heap.size) (hl : l.length ≤ 1000000) (k th n : Int) (hn : 0 ≤ n) :
    Calls Tryz.prog 20 #[v, .int .u8 k, .int .i64 th, .int .i64 n] w fun e w' => ∃ v', e = .returned v' ∧ w'.ownsRow base 66 3 v' (putS l k th n).length ((putS l k th n).flatMap encPk) ∧
      (∀ g, v'.ownBlock = some g → v.ownBlock = some g ∨ w.heap.size ≤ g) ∧ Chg (fun k => v.ownBlock = some k) w w' := by
  obtain ⟨i0, hi, hz0, hz1, hz2⟩ := info_parts pkInfo
  have H := hidI h
  clear h
  by_cases hn0 : n = 0
  · subst hn0
    go_enter Tryz.func20, Tryz.ntmps20
    go_wp2_with fail
    go_ret
    refine ⟨v, rfl, ?_, fun g hg => .inl hg, Chg.refl _ _⟩
    unfold putS
    rw [if_neg (by omega)]
    exact H.out
  · have hne : (n == 0) = false := by simpa using hn0
    go_enter Tryz.func20, Tryz.ntmps20
    go_wp2_with (at_builtin; refine wpList_append_d _ rfl _ _ 22 rfl base 66 i0 _ 3 24 Tryz.underlying22 hi hz0 hz1 hz2 rfl (by decide) _ _ _ rfl (ownsRow_chg H.out ((Chg.refl (fun _ => False) w).alloc _) (fun _ _ => id)) ⟨w.heap.size, 0, none⟩ 1 1 (encPk ⟨k, th, n⟩) rfl rfl ?c1 ?c2 ?c3 ?c4 ?c5 ?_)
    case c1 => exact news_at (block_new _ _)
    case c2 => exact one_pk _
    case c3 => unfold maxLen; omega
    case c4 => omega
    case c5 => simp; omega
    intro ao cp w1 hown hfrom hgrown
    have hc := Chg.grown (S := fun k => v.ownBlock = some k) ((Chg.refl _ w).alloc (.cells (encPk ⟨k, th, n⟩).toArray 66)) hgrown (fun k hk => .inl hk)
    have HC := hidI hc
    have HO := hidI hown
    have HF := hidI hfrom
    clear hc hown hfrom hgrown hi hz0 hz1 hz2
    go_wp2_with fail
    go_ret
    refine ⟨.slice ao (l.length + 1) cp, rfl, ?_, fun g hg => ?_, HC.out⟩
    · unfold putS
      rw [if_pos (by omega), List.length_append, flat_snoc]
      exact HO.out
    · rcases HF.out g hg with e | e
      · exact .inl e
      · exact .inr (by omega)
end

section
variable {w w' : World} {base : Nat}

/-- two rows of our own that grow -/
structure TwoR (w0 w : World) (A B : List PickD) (va vb : Value) : Prop where
  a : w.ownsRow w0.heap.size 66 3 va A.length (A.flatMap encPk)
  b : w.ownsRow w0.heap.size 66 3 vb B.length (B.flatMap encPk)
  rows : ∀ g, va.ownBlock = some g → vb.ownBlock ≠ some g
  old : Below w0.heap.size w0 w
theorem TwoR.swap {w0 w : World} {A B : List PickD} {va vb : Value} (h : TwoR w0 w A B va vb) : TwoR w0 w B A vb va := ⟨h.b, h.a, fun g h1 h2 => h.rows g h2 h1, h.old⟩
theorem TwoR.below {w0 w w' : World} {A B : List PickD} {va vb : Value} (h : TwoR w0 w A B va vb) (hb : Below w.heap.size w w') : TwoR w0 w' A B va vb :=
  ⟨ownRow_keep h.a fun g _ hl => hb.block g hl, ownRow_keep h.b fun g _ hl => hb.block g hl, h.rows, h.old.trans (hb.mono h.old.size)⟩
/-- a block beside them -/
structure AsideR (w : World) (P : Nat) (o : Obj) (va vb : Value) : Prop where
  blk : w.heap[P]? = some o
  na : va.ownBlock ≠ some P
  nb : vb.ownBlock ≠ some P
theorem AsideR.swap {w : World} {P : Nat} {o : Obj} {va vb : Value} (h : AsideR w P o va vb) : AsideR w P o vb va := ⟨h.blk, h.nb, h.na⟩
theorem putR_a {w0 w : World} {P : Nat} {o : Obj} {A B : List PickD} {va vb : Value} (h : TwoR w0 w A B va vb) (hp : AsideR w P o va vb) (hl : A.length ≤ 1000000) (k th n : Int) (hn : 0 ≤ n) :
    Calls Tryz.prog 20 #[va, .int .u8 k, .int .i64 th, .int .i64 n] w fun e w' => ∃ va', e = .returned va' ∧ TwoR w0 w' (putS A k th n) B va' vb ∧ AsideR w' P o va' vb := by
  refine (putR_any h.a h.old.size hl k th n hn).mono ?_
  rintro e w' ⟨v', rfl, hv, hf, hc⟩
  have hlp := lt_of_block hp.blk
  refine ⟨v', rfl, ⟨hv, ownRow_keep h.b fun g hg hl => hc.block g hl (fun e => h.rows g e hg), fun g hg hg2 => ?_, ?_⟩, (hc.block P hlp hp.na).trans hp.blk, fun e => ?_, hp.nb⟩
  · rcases hf g hg with e | e
    · exact h.rows g e hg2
    · have := (rowLt h.b hg2).2; omega
  · exact Chg.below h.old h.old.size hc (fun k hk => (rowLt h.a hk).1)
  · rcases hf P e with e | e
    · exact hp.na e
    · omega
theorem putR_b {w0 w : World} {P : Nat} {o : Obj} {A B : List PickD} {va vb : Value} (h : TwoR w0 w A B va vb) (hp : AsideR w P o va vb) (hl : B.length ≤ 1000000) (k th n : Int) (hn : 0 ≤ n) :
    Calls Tryz.prog 20 #[vb, .int .u8 k, .int .i64 th, .int .i64 n] w fun e w' => ∃ vb', e = .returned vb' ∧ TwoR w0 w' A (putS B k th n) va vb' ∧ AsideR w' P o va vb' := by
  refine (putR_a h.swap hp.swap hl k th n hn).mono ?_
  rintro e w' ⟨v', rfl, h', hp'⟩
  exact ⟨v', rfl, h'.swap, hp'.swap⟩

set_option maxRecDepth 100000 in
set_option maxHeartbeats 2000000 in
theorem tailR_no {ao : Option Addr} {cap : Nat} {l : List PickD} (h : RdT encPk w 3 (.slice ao l.length cap) l) (hm : l.length ≤ 9000000000000) (first : Int) (he : tailE l first ≠ 0) :
    Calls Tryz.prog 9 #[.slice ao l.length cap, .int .i64 first] w fun e w' => e = .returned (.tuple #[.slice none 0 0, .slice none 0 0, .int .i64 (tailE l first)]) ∧ Below w.heap.size w w' := by
  have H := hidI h
  have HE := hidI he
  clear h he
  go_enter Tryz.func9, Tryz.ntmps9
  go_wp2_with fail
  refine (lengthR_any H.out hm).mono ?_
  rintro e w1 ⟨rfl, hb⟩
  have HB := hidI hb
  clear hb
  by_cases h1 : (lengthS l).2 = 0
  · have HN1 := hidI (lengthS_ok h1)
    have he2 : tailE l first = 1 := by
      have := HE.out
      unfold tailE at this ⊢
      rw [if_neg (by simpa using h1)] at this ⊢
      split
      · rfl
      · rename_i h2; rw [if_neg h2] at this; exact absurd rfl this
    have h2 : first < 0 ∨ (lengthS l).1 < first := by
      have := HE.out
      unfold tailE at this
      rw [if_neg (by simpa using h1)] at this
      exact Classical.byContradiction fun hc => this (if_neg hc)
    have HE2 := hidI he2
    rw [h1]
    clear he2 h1
    generalize (lengthS l).1 = n at h2 ⊢
    by_cases h3 : first < 0
    · clear h2
      go_wp2_with fail
      go_ret3
      rw [HE2.out]
      exact ⟨rfl, HB.out⟩
    · have h4 : first > n := by omega
      clear h2
      go_wp2_with fail
      go_ret3
      rw [HE2.out]
      exact ⟨rfl, HB.out⟩
  · have he2 : tailE l first = (lengthS l).2 := by unfold tailE; rw [if_pos h1]
    have HE2 := hidI he2
    clear he2
    generalize (lengthS l).1 = n at *
    generalize (lengthS l).2 = er at *
    have h3 : (er == 0) = false := by simpa using h1
    go_wp2_with fail
    go_ret3
    rw [HE2.out]
    exact ⟨rfl, HB.out⟩

set_option maxRecDepth 100000 in
set_option maxHeartbeats 2000000 in
theorem tailR_yes {ao : Option Addr} {cap : Nat} {l : List PickD} (h : RdT encPk w 3 (.slice ao l.length cap) l) (hn : ∀ p ∈ l, -9223372036854775808 ≤ p.n ∧ p.n ≤ 9223372036854775807 ∧ 0 ≤ p.kind) (first : Int) (he : tailE l first = 0) :
    Calls Tryz.prog 9 #[.slice ao l.length cap, .int .i64 first] w fun e w' => ∃ va vb, e = .returned (.tuple #[va, vb, .int .i64 0]) ∧
      w'.ownsRow w.heap.size 66 3 va (tailSt first l).2.1.length ((tailSt first l).2.1.flatMap encPk) ∧ w'.ownsRow w.heap.size 66 3 vb (tailSt first l).2.2.length ((tailSt first l).2.2.flatMap encPk) ∧
      (∀ g, va.ownBlock = some g → vb.ownBlock ≠ some g) ∧ Below w.heap.size w w' := by
  have h1 : (lengthS l).2 = 0 := by
    unfold tailE at he
    split at he
    · assumption
    · rename_i hc; simpa using hc
  have h2 := lengthS_ok h1
  have h3 : ¬ (first < 0) ∧ ¬ (first > (lengthS l).1) := by
    unfold tailE at he
    rw [if_neg (by simpa using h1)] at he
    constructor
    · intro hc; rw [if_pos (.inl hc)] at he; cases he
    · intro hc; rw [if_pos (.inr hc)] at he; cases he
  have H := hidI h
  have HN := hidI hn
  have H2 := hidI h2
  have h4 := h3.2
  have h3 := h3.1
  have hm : l.length ≤ 9000000000000 := by have := h2.1; omega
  have h30 : 0 ≤ first := by omega
  have HFN : Hid (first ≤ 1048576) := hidI (by have := h2.2.2.1; have := h2.2.2.2; omega)
  clear h hn he h2
  go_enter Tryz.func9, Tryz.ntmps9
  go_wp2_with fail
  refine (lengthR_any H.out hm).mono ?_
  rintro e w1 ⟨rfl, hb⟩
  have HB := hidI hb
  clear hb
  rw [h1]
  generalize (lengthS l).1 = n at h4 ⊢
  have hT0 : TwoR w w1 [] [] (.slice none 0 0) (.slice none 0 0) := ⟨World.ownsRow_nil _ _ _ _, World.ownsRow_nil _ _ _ _, fun g h => by simp [Value.ownBlock] at h, HB.out⟩
  have HT0 := hidI hT0
  clear hT0 h1
  go_wp2_with fail
  clear h3 h4
  go_loopw [1, 9, 10, 11] (fun f v9 v10 i w' => ∃ (k : Nat) (va vb : Value), va = v9 ∧ vb = v10 ∧ k ≤ l.length ∧ i = .int .i64 (k : Int) ∧ f = .int .i64 (tailSt first (l.take k)).1 ∧ Hid (TwoR w w' (tailSt first (l.take k)).2.1 (tailSt first (l.take k)).2.2 va vb)) (fun f va vb i _ => ((l.length : Int) - intOf i).toNat)
  case atStart => exact ⟨0, _, _, rfl, rfl, by omega, rfl, rfl, HT0⟩
  case round =>
    obtain ⟨k, va, vb, hva, hvb, hk, rfl, rfl, HT⟩ := hrel
    subst hva
    subst hvb
    by_cases hlt : k < l.length
    · obtain ⟨x, hx⟩ := some_at hlt
      obtain ⟨b1, o1, rfl, hs1, hc1⟩ := RdT.at encPk_len (Rd.below H.out HT.out.old) hx
      have x0 := hc1 0 _ rfl
      have x1 := hc1 1 _ rfl
      have x2 := hc1 2 _ rfl
      simp only [Nat.add_zero] at x0
      have hbx : pbad x = false := by
        have := List.any_eq_false.1 H2.out.2.1 x (List.mem_of_getElem? hx)
        simpa using this
      have hng : 0 ≤ x.n := by unfold pbad at hbx; simp at hbx; omega
      have hp0 := plen_ge hbx
      have hxl : plen x ≤ 1048576 := by
        have h1 := total_app (l.take k) (l.drop k)
        rw [List.take_append_drop] at h1
        have h2 : l.drop k = x :: l.drop (k + 1) := by
          obtain ⟨hl, he⟩ := List.getElem?_eq_some_iff.1 hx
          rw [← he]; exact List.drop_eq_getElem_cons hl
        have h3 : total (l.drop k) = plen x + total (l.drop (k + 1)) := by rw [h2]; simp [total]
        have h4 : 0 ≤ total (l.drop (k + 1)) := total_ge (List.any_eq_false.2 fun y hy => List.any_eq_false.1 H2.out.2.1 y (List.mem_of_mem_drop hy))
        have h5 : 0 ≤ total (l.take k) := total_ge (List.any_eq_false.2 fun y hy => List.any_eq_false.1 H2.out.2.1 y (List.mem_of_mem_take hy))
        have h6 := H2.out.2.2.1
        omega
      have hf := tailSt_first h30 (l.take k) (List.any_eq_false.2 fun y hy => List.any_eq_false.1 H2.out.2.1 y (List.mem_of_mem_take hy))
      have hlen := tailSt_len first (l.take k)
      have hsn : tailSt first (l.take (k + 1)) = tailNext x (tailSt first (l.take k)) := by rw [take_snoc hx, tailSt_snoc]
      have HSN := hidI hsn
      have HX := hidI hx
      clear hc1 hs1 hx hbx hsn
      go_wp2_with fail
      -- ROUND
      refine (longR_any _ x hng).mono ?_
      rintro e w2 ⟨rfl, hb2⟩
      rw [show min (plen x) 1048577 = plen x from by omega]
      have hfu : (tailSt first (l.take k)).1 ≤ 1048576 := by have := HFN.out; omega
      have hf0 := hf.1
      have hblk : w2.heap[wr.heap.size]? = some (.cells (encPk x).toArray 66 (0, 0)) := (hb2.block _ (by simp)).trans (block_new _ _)
      have p0 : w2.cell? ⟨wr.heap.size, 0, none⟩ = some (.int .u8 x.kind) := cell_of_block hblk rfl
      have p1 : w2.cell? ⟨wr.heap.size, 1, none⟩ = some (.int .i64 x.th) := cell_of_block hblk rfl
      have p2 : w2.cell? ⟨wr.heap.size, 2, none⟩ = some (.int .i64 x.n) := cell_of_block hblk rfl
      have hT2 := HT.out.below (((Below.refl wr.heap.size wr).alloc (Nat.le_refl _) _).trans (hb2.mono (by simp)))
      have hl1 : (tailSt first (l.take k)).2.1.length ≤ 900000 := by have h1 := hlen.1; have := H2.out.1; simp only [List.length_take] at h1; omega
      have hl2 : (tailSt first (l.take k)).2.2.length ≤ 900000 := by have h1 := hlen.2; have := H2.out.1; simp only [List.length_take] at h1; omega
      have hasd : AsideR w2 wr.heap.size (.cells (encPk x).toArray 66 (0, 0)) va vb :=
        ⟨hblk, fun e => by have := (rowLt HT.out.a e).2; omega, fun e => by have := (rowLt HT.out.b e).2; omega⟩
      have hxn := (HN.out x (List.mem_of_getElem? HX.out)).2.1
      have hpe : (x.kind = 2 → plen x ≤ x.n * 2) ∧ (¬ x.kind = 2 → plen x ≤ x.n) := by
        unfold plen
        constructor
        · intro h; rw [if_pos h]; omega
        · intro h; rw [if_neg h]; omega
      have HT := hidI hT2
      have HA := hidI hasd
      clear hblk hT2 hb2 hf hlen hasd
      generalize hpl : plen x = pl at *
      generalize hst : tailSt first (l.take k) = st at *
      obtain ⟨f, A, B⟩ := st
      simp only at hf0 hfu hl1 hl2 HT HSN HA ⊢
      have HPL := hidI hpl
      have HPE := hidI hpe
      have HL1 := hidI hl1
      have HL2 := hidI hl2
      clear hpl hst hl1 hl2 hpe
      by_cases hmin : pl < f
      · have hm : min f pl = pl := by omega
        by_cases hk2 : x.kind = 2
        · have hsn : tailSt first (l.take (k + 1)) = (f - pl, putS (putS A 2 x.th (pl / 2)) 0 x.th (pl % 2), putS (putS B 1 x.th (pl % 2)) 2 x.th (x.n - pl / 2 - pl % 2)) := by
            rw [HSN.out, show x.n - pl / 2 - pl % 2 = x.n - (pl + 1) / 2 from by omega]
            simp only [tailNext, HPL.out, hm, tailStep, if_pos hk2]
          have HSN := hidI hsn
          have hxh : pl / 2 + pl % 2 ≤ x.n := by have := HPE.out.1 hk2; omega
          clear hsn hm
          rw [hk2] at p0
          go_wp2_with fail
          refine (putR_a HT.out HA.out (by have := HL1.out; omega) _ _ _ (by omega)).mono ?_
          rintro e w3 ⟨vaw3, rfl, hT, hA⟩
          have HT := hidI hT
          have HA := hidI hA
          clear hT hA p0 p1 p2
          have p0 : w3.cell? ⟨wr.heap.size, 0, none⟩ = some (.int .u8 2) := by first | exact cell_of_block HA.out.blk rfl | (rw [← hk2]; exact cell_of_block HA.out.blk rfl)
          have p1 : w3.cell? ⟨wr.heap.size, 1, none⟩ = some (.int .i64 x.th) := cell_of_block HA.out.blk rfl
          have p2 : w3.cell? ⟨wr.heap.size, 2, none⟩ = some (.int .i64 x.n) := cell_of_block HA.out.blk rfl
          go_wp2_with fail
          refine (putR_a HT.out HA.out (by have := HL1.out; have := putS_len A 2 x.th (pl / 2); omega) _ _ _ (by omega)).mono ?_
          rintro e w4 ⟨vaw4, rfl, hT, hA⟩
          have HT := hidI hT
          have HA := hidI hA
          clear hT hA p0 p1 p2
          have p0 : w4.cell? ⟨wr.heap.size, 0, none⟩ = some (.int .u8 2) := by first | exact cell_of_block HA.out.blk rfl | (rw [← hk2]; exact cell_of_block HA.out.blk rfl)
          have p1 : w4.cell? ⟨wr.heap.size, 1, none⟩ = some (.int .i64 x.th) := cell_of_block HA.out.blk rfl
          have p2 : w4.cell? ⟨wr.heap.size, 2, none⟩ = some (.int .i64 x.n) := cell_of_block HA.out.blk rfl
          go_wp2_with fail
          refine (putR_b HT.out HA.out (by have := HL2.out; omega) _ _ _ (by omega)).mono ?_
          rintro e w5 ⟨vbw5, rfl, hT, hA⟩
          have HT := hidI hT
          have HA := hidI hA
          clear hT hA p0 p1 p2
          have p0 : w5.cell? ⟨wr.heap.size, 0, none⟩ = some (.int .u8 2) := by first | exact cell_of_block HA.out.blk rfl | (rw [← hk2]; exact cell_of_block HA.out.blk rfl)
          have p1 : w5.cell? ⟨wr.heap.size, 1, none⟩ = some (.int .i64 x.th) := cell_of_block HA.out.blk rfl
          have p2 : w5.cell? ⟨wr.heap.size, 2, none⟩ = some (.int .i64 x.n) := cell_of_block HA.out.blk rfl
          go_wp2_with fail
          refine (putR_b HT.out HA.out (by have := HL2.out; have := putS_len B 1 x.th (pl % 2); omega) _ _ _ (by omega)).mono ?_
          rintro e w6 ⟨vbw6, rfl, hT, hA⟩
          have HT := hidI hT
          have HA := hidI hA
          clear hT hA p0 p1 p2
          have p0 : w6.cell? ⟨wr.heap.size, 0, none⟩ = some (.int .u8 2) := by first | exact cell_of_block HA.out.blk rfl | (rw [← hk2]; exact cell_of_block HA.out.blk rfl)
          have p1 : w6.cell? ⟨wr.heap.size, 1, none⟩ = some (.int .i64 x.th) := cell_of_block HA.out.blk rfl
          have p2 : w6.cell? ⟨wr.heap.size, 2, none⟩ = some (.int .i64 x.n) := cell_of_block HA.out.blk rfl
          go_wp2_with fail
          exact ⟨⟨k + 1, _, _, rfl, rfl, by omega, by go_num, by rw [HSN.out], by rw [HSN.out]; exact HT⟩, by simp [intOf]; omega⟩
        · have hsn : tailSt first (l.take (k + 1)) = (f - pl, putS A x.kind x.th pl, putS B x.kind x.th (x.n - pl)) := by
            rw [HSN.out]
            simp only [tailNext, HPL.out, hm, tailStep, if_neg hk2]
          have HSN := hidI hsn
          have hxh : pl ≤ x.n := by have := HPE.out.2 hk2; omega
          have hk3 : (x.kind == 2) = false := by simpa using hk2
          clear hsn hm
          go_wp2_with fail
          refine (putR_a HT.out HA.out (by have := HL1.out; omega) _ _ _ (by omega)).mono ?_
          rintro e w3 ⟨vaw3, rfl, hT, hA⟩
          have HT := hidI hT
          have HA := hidI hA
          clear hT hA p0 p1 p2
          have p0 : w3.cell? ⟨wr.heap.size, 0, none⟩ = some (.int .u8 x.kind) := by first | exact cell_of_block HA.out.blk rfl | exact cell_of_block HA.out.blk rfl
          have p1 : w3.cell? ⟨wr.heap.size, 1, none⟩ = some (.int .i64 x.th) := cell_of_block HA.out.blk rfl
          have p2 : w3.cell? ⟨wr.heap.size, 2, none⟩ = some (.int .i64 x.n) := cell_of_block HA.out.blk rfl
          go_wp2_with fail
          refine (putR_b HT.out HA.out (by have := HL2.out; omega) _ _ _ (by omega)).mono ?_
          rintro e w4 ⟨vbw4, rfl, hT, hA⟩
          have HT := hidI hT
          have HA := hidI hA
          clear hT hA p0 p1 p2
          have p0 : w4.cell? ⟨wr.heap.size, 0, none⟩ = some (.int .u8 x.kind) := by first | exact cell_of_block HA.out.blk rfl | exact cell_of_block HA.out.blk rfl
          have p1 : w4.cell? ⟨wr.heap.size, 1, none⟩ = some (.int .i64 x.th) := cell_of_block HA.out.blk rfl
          have p2 : w4.cell? ⟨wr.heap.size, 2, none⟩ = some (.int .i64 x.n) := cell_of_block HA.out.blk rfl
          go_wp2_with fail
          exact ⟨⟨k + 1, _, _, rfl, rfl, by omega, by go_num, by rw [HSN.out], by rw [HSN.out]; exact HT⟩, by simp [intOf]; omega⟩
      · have hm : min f pl = f := by omega
        by_cases hk2 : x.kind = 2
        · have hsn : tailSt first (l.take (k + 1)) = (0, putS (putS A 2 x.th (f / 2)) 0 x.th (f % 2), putS (putS B 1 x.th (f % 2)) 2 x.th (x.n - f / 2 - f % 2)) := by
            rw [HSN.out, show x.n - f / 2 - f % 2 = x.n - (f + 1) / 2 from by omega]
            simp only [tailNext, HPL.out, hm, tailStep, if_pos hk2, Int.sub_self]
          have HSN := hidI hsn
          have hxh : f / 2 + f % 2 ≤ x.n := by have := HPE.out.1 hk2; omega
          clear hsn hm
          rw [hk2] at p0
          go_wp2_with fail
          refine (putR_a HT.out HA.out (by have := HL1.out; omega) _ _ _ (by omega)).mono ?_
          rintro e w3 ⟨vaw3, rfl, hT, hA⟩
          have HT := hidI hT
          have HA := hidI hA
          clear hT hA p0 p1 p2
          have p0 : w3.cell? ⟨wr.heap.size, 0, none⟩ = some (.int .u8 2) := by first | exact cell_of_block HA.out.blk rfl | (rw [← hk2]; exact cell_of_block HA.out.blk rfl)
          have p1 : w3.cell? ⟨wr.heap.size, 1, none⟩ = some (.int .i64 x.th) := cell_of_block HA.out.blk rfl
          have p2 : w3.cell? ⟨wr.heap.size, 2, none⟩ = some (.int .i64 x.n) := cell_of_block HA.out.blk rfl
          go_wp2_with fail
          refine (putR_a HT.out HA.out (by have := HL1.out; have := putS_len A 2 x.th (f / 2); omega) _ _ _ (by omega)).mono ?_
          rintro e w4 ⟨vaw4, rfl, hT, hA⟩
          have HT := hidI hT
          have HA := hidI hA
          clear hT hA p0 p1 p2
          have p0 : w4.cell? ⟨wr.heap.size, 0, none⟩ = some (.int .u8 2) := by first | exact cell_of_block HA.out.blk rfl | (rw [← hk2]; exact cell_of_block HA.out.blk rfl)
          have p1 : w4.cell? ⟨wr.heap.size, 1, none⟩ = some (.int .i64 x.th) := cell_of_block HA.out.blk rfl
          have p2 : w4.cell? ⟨wr.heap.size, 2, none⟩ = some (.int .i64 x.n) := cell_of_block HA.out.blk rfl
          go_wp2_with fail
          refine (putR_b HT.out HA.out (by have := HL2.out; omega) _ _ _ (by omega)).mono ?_
          rintro e w5 ⟨vbw5, rfl, hT, hA⟩
          have HT := hidI hT
          have HA := hidI hA
          clear hT hA p0 p1 p2
          have p0 : w5.cell? ⟨wr.heap.size, 0, none⟩ = some (.int .u8 2) := by first | exact cell_of_block HA.out.blk rfl | (rw [← hk2]; exact cell_of_block HA.out.blk rfl)
          have p1 : w5.cell? ⟨wr.heap.size, 1, none⟩ = some (.int .i64 x.th) := cell_of_block HA.out.blk rfl
          have p2 : w5.cell? ⟨wr.heap.size, 2, none⟩ = some (.int .i64 x.n) := cell_of_block HA.out.blk rfl
          go_wp2_with fail
          refine (putR_b HT.out HA.out (by have := HL2.out; have := putS_len B 1 x.th (f % 2); omega) _ _ _ (by omega)).mono ?_
          rintro e w6 ⟨vbw6, rfl, hT, hA⟩
          have HT := hidI hT
          have HA := hidI hA
          clear hT hA p0 p1 p2
          have p0 : w6.cell? ⟨wr.heap.size, 0, none⟩ = some (.int .u8 2) := by first | exact cell_of_block HA.out.blk rfl | (rw [← hk2]; exact cell_of_block HA.out.blk rfl)
          have p1 : w6.cell? ⟨wr.heap.size, 1, none⟩ = some (.int .i64 x.th) := cell_of_block HA.out.blk rfl
          have p2 : w6.cell? ⟨wr.heap.size, 2, none⟩ = some (.int .i64 x.n) := cell_of_block HA.out.blk rfl
          go_wp2_with fail
          exact ⟨⟨k + 1, _, _, rfl, rfl, by omega, by go_num, by rw [HSN.out], by rw [HSN.out]; exact HT⟩, by simp [intOf]; omega⟩
        · have hsn : tailSt first (l.take (k + 1)) = (0, putS A x.kind x.th f, putS B x.kind x.th (x.n - f)) := by
            rw [HSN.out]
            simp only [tailNext, HPL.out, hm, tailStep, if_neg hk2, Int.sub_self]
          have HSN := hidI hsn
          have hxh : f ≤ x.n := by have := HPE.out.2 hk2; omega
          have hk3 : (x.kind == 2) = false := by simpa using hk2
          clear hsn hm
          go_wp2_with fail
          refine (putR_a HT.out HA.out (by have := HL1.out; omega) _ _ _ (by omega)).mono ?_
          rintro e w3 ⟨vaw3, rfl, hT, hA⟩
          have HT := hidI hT
          have HA := hidI hA
          clear hT hA p0 p1 p2
          have p0 : w3.cell? ⟨wr.heap.size, 0, none⟩ = some (.int .u8 x.kind) := by first | exact cell_of_block HA.out.blk rfl | exact cell_of_block HA.out.blk rfl
          have p1 : w3.cell? ⟨wr.heap.size, 1, none⟩ = some (.int .i64 x.th) := cell_of_block HA.out.blk rfl
          have p2 : w3.cell? ⟨wr.heap.size, 2, none⟩ = some (.int .i64 x.n) := cell_of_block HA.out.blk rfl
          go_wp2_with fail
          refine (putR_b HT.out HA.out (by have := HL2.out; omega) _ _ _ (by omega)).mono ?_
          rintro e w4 ⟨vbw4, rfl, hT, hA⟩
          have HT := hidI hT
          have HA := hidI hA
          clear hT hA p0 p1 p2
          have p0 : w4.cell? ⟨wr.heap.size, 0, none⟩ = some (.int .u8 x.kind) := by first | exact cell_of_block HA.out.blk rfl | exact cell_of_block HA.out.blk rfl
          have p1 : w4.cell? ⟨wr.heap.size, 1, none⟩ = some (.int .i64 x.th) := cell_of_block HA.out.blk rfl
          have p2 : w4.cell? ⟨wr.heap.size, 2, none⟩ = some (.int .i64 x.n) := cell_of_block HA.out.blk rfl
          go_wp2_with fail
          exact ⟨⟨k + 1, _, _, rfl, rfl, by omega, by go_num, by rw [HSN.out], by rw [HSN.out]; exact HT⟩, by simp [intOf]; omega⟩
    · obtain rfl : k = l.length := by omega
      go_wp2_with fail
      go_ret3
      have hT := HT.out
      rw [List.take_length] at hT
      exact ⟨_, _, rfl, hT.a, hT.b, hT.rows, hT.old⟩
end

section
variable {w w' : World}

/-- both sides of a cut; nothing where it is refused -/
def cutA (l : List PickD) (first : Int) : List PickD := if tailE l first = 0 then (tailSt first l).2.1 else []
def cutB (l : List PickD) (first : Int) : List PickD := if tailE l first = 0 then (tailSt first l).2.2 else []
theorem cut_len (l : List PickD) (first : Int) : (cutA l first).length ≤ 2 * l.length ∧ (cutB l first).length ≤ 2 * l.length := by
  have h := tailSt_len first l
  unfold cutA cutB
  split
  · exact h
  · simp
def TailPost (A B : List PickD) (er : Int) (w : World) (e : Ending) (w' : World) : Prop :=
  ∃ ao ca bo cb, e = .returned (.tuple #[.slice ao A.length ca, .slice bo B.length cb, .int .i64 er]) ∧
    w'.ownsRow w.heap.size 66 3 (.slice ao A.length ca) A.length (A.flatMap encPk) ∧ w'.ownsRow w.heap.size 66 3 (.slice bo B.length cb) B.length (B.flatMap encPk) ∧
    (∀ g, (Value.slice ao A.length ca).ownBlock = some g → (Value.slice bo B.length cb).ownBlock ≠ some g) ∧ Below w.heap.size w w'
theorem tail_one {ao : Option Addr} {cap : Nat} {l : List PickD} (h : RdT encPk w 3 (.slice ao l.length cap) l) (hm : l.length ≤ 9000000000000) (hn : ∀ p ∈ l, -9223372036854775808 ≤ p.n ∧ p.n ≤ 9223372036854775807 ∧ 0 ≤ p.kind) (first : Int) :
    Calls Tryz.prog 7 #[.slice ao l.length cap, .int .i64 first] w (TailPost (cutA l first) (cutB l first) (tailE l first) w) := by
  by_cases he : tailE l first = 0
  · refine (tail_yes h hn first he).mono ?_
    rintro e w' ⟨va, vb, rfl, h1, h2, h3, h4⟩
    obtain ⟨ao', ca', rfl⟩ := ownsRow_shape h1
    obtain ⟨bo', cb', rfl⟩ := ownsRow_shape h2
    unfold TailPost cutA cutB
    rw [he, if_pos rfl, if_pos rfl]
    exact ⟨_, _, _, _, rfl, h1, h2, h3, h4⟩
  · refine (tail_no h hm (fun p hp => ⟨(hn p hp).1, (hn p hp).2.2⟩) first he).mono ?_
    rintro e w' ⟨rfl, h4⟩
    unfold TailPost cutA cutB
    rw [if_neg he, if_neg he]
    exact ⟨none, 0, none, 0, rfl, World.ownsRow_nil _ _ _ _, World.ownsRow_nil _ _ _ _, fun g h => by simp [Value.ownBlock] at h, h4⟩
theorem tailR_one {ao : Option Addr} {cap : Nat} {l : List PickD} (h : RdT encPk w 3 (.slice ao l.length cap) l) (hm : l.length ≤ 9000000000000) (hn : ∀ p ∈ l, -9223372036854775808 ≤ p.n ∧ p.n ≤ 9223372036854775807 ∧ 0 ≤ p.kind) (first : Int) :
    Calls Tryz.prog 9 #[.slice ao l.length cap, .int .i64 first] w (TailPost (cutA l first) (cutB l first) (tailE l first) w) := by
  by_cases he : tailE l first = 0
  · refine (tailR_yes h hn first he).mono ?_
    rintro e w' ⟨va, vb, rfl, h1, h2, h3, h4⟩
    obtain ⟨ao', ca', rfl⟩ := ownsRow_shape h1
    obtain ⟨bo', cb', rfl⟩ := ownsRow_shape h2
    unfold TailPost cutA cutB
    rw [he, if_pos rfl, if_pos rfl]
    exact ⟨_, _, _, _, rfl, h1, h2, h3, h4⟩
  · refine (tailR_no h hm first he).mono ?_
    rintro e w' ⟨rfl, h4⟩
    unfold TailPost cutA cutB
    rw [if_neg he, if_neg he]
    exact ⟨none, 0, none, 0, rfl, World.ownsRow_nil _ _ _ _, World.ownsRow_nil _ _ _ _, fun g h => by simp [Value.ownBlock] at h, h4⟩
end

section
def tmarkPick (z : Int) : PickD := ⟨0, -1000 - z, 0⟩
theorem tmarkPick_enc (z : Int) : encPk (tmarkPick z) = [Value.int .u8 0, Value.int .i64 (-1000 - z), Value.int .i64 0] := rfl
/-- TwinPicks' post: a copy with two marks behind it -/
def TwinPickPost (l : List PickD) (w : World) (e : Ending) (w' : World) : Prop :=
  ∃ g, w.heap.size ≤ g ∧ e = .returned (.slice (some ⟨g, 0, none⟩) l.length (l.length + 2)) ∧ w'.heap[g]? = some (.cells ((l ++ [tmarkPick l.length, tmarkPick (l.length + 1)]).flatMap encPk).toArray 66 (0, 0)) ∧ Below w.heap.size w w'

theorem twInfoPick : (Tryz.prog.info? 66).map (fun i => (i.zero, i.size, i.bytes)) = some (some (.agg #[Value.int .u8 0, Value.int .i64 0, Value.int .i64 0]), 3, 24) := by kernel_rfl
theorem twSizePick : (Tryz.prog.info? 66).map (·.size) = some 3 := by kernel_rfl
theorem one_encPkL {l : List PickD} : ∀ v ∈ l.flatMap encPk, v.oneCell' = true := by
  intro v hv
  obtain ⟨x, _, hx⟩ := List.mem_flatMap.1 hv
  simp [encPk] at hx
  rcases hx with rfl | rfl | rfl <;> rfl
theorem set3Pick (A R : List Value) (a0 a1 a2 x0 x1 x2 : Value) (i : Nat) (hi : A.length = i) : ((((A ++ a0 :: a1 :: a2 :: R).toArray.setIfInBounds (i) x0).setIfInBounds (i + 1) x1).setIfInBounds (i + 2) x2) = (A ++ x0 :: x1 :: x2 :: R).toArray := by
  subst hi
  simp [List.setIfInBounds_toArray, List.set_append]

/-- the copy while its marks are laid -/
def twPick (l : List PickD) : Nat → List Value
  | 0 => l.flatMap encPk ++ [Value.int .u8 0, Value.int .i64 0, Value.int .i64 0, Value.int .u8 0, Value.int .i64 0, Value.int .i64 0]
  | 1 => l.flatMap encPk ++ [Value.int .u8 0, Value.int .i64 (-1000 - (l.length : Int)), Value.int .i64 0, Value.int .u8 0, Value.int .i64 0, Value.int .i64 0]
  | _ => l.flatMap encPk ++ [Value.int .u8 0, Value.int .i64 (-1000 - (l.length : Int)), Value.int .i64 0, Value.int .u8 0, Value.int .i64 (-1000 - ((l.length : Int) + 1)), Value.int .i64 0]
theorem twPick_two (l : List PickD) : twPick l 2 = (l ++ [tmarkPick l.length, tmarkPick (l.length + 1)]).flatMap encPk := by simp [twPick, encPk, tmarkPick]
theorem twPick_split (l : List PickD) (k : Nat) (hk : k < 2) : ∃ A R, A.length = (l.length + k) * 3 ∧ twPick l k = A ++ Value.int .u8 0 :: Value.int .i64 0 :: Value.int .i64 0 :: R ∧ twPick l (k + 1) = A ++ Value.int .u8 0 :: Value.int .i64 (-1000 - ((l.length + k : Nat) : Int)) :: Value.int .i64 0 :: R := by
  have hl := flat_len encPk_len l
  match k, hk with
  | 0, _ => exact ⟨l.flatMap encPk, [Value.int .u8 0, Value.int .i64 0, Value.int .i64 0], by simpa using hl, rfl, rfl⟩
  | 1, _ => exact ⟨l.flatMap encPk ++ [Value.int .u8 0, Value.int .i64 (-1000 - (l.length : Int)), Value.int .i64 0], [], by simp [hl]; omega, by simp [twPick], by simp [twPick]⟩

set_option maxRecDepth 100000 in
set_option maxHeartbeats 2000000 in
theorem twinPicks_any {w : World} {ao : Option Addr} {ca : Nat} {l : List PickD} (ha : RdT encPk w 3 (.slice ao l.length ca) l) (hm : l.length ≤ 262144) :
    Calls Tryz.prog 5 #[.slice ao l.length ca] w (TwinPickPost l w) := by
  obtain ⟨i0, hi, hz0, hz1, hz2⟩ := info_parts twInfoPick
  have HA := hidI ha
  clear ha
  go_enter Tryz.func5, Tryz.ntmps5
  go_wp2_with (at_make; refine wpList_make_s _ rfl _ _ 22 rfl 66 i0 _ 3 [Value.int .u8 0, Value.int .i64 0, Value.int .i64 0] Tryz.underlying22 hi hz0 hz1 rfl rfl (by decide) _ _ _ _ l.length (l.length + 2) rfl rfl rfl ?b0 ?b1 ?b2 ?b3 ?_)
  case b0 => omega
  case b1 => omega
  case b2 => rw [hz2]; omega
  case b3 => unfold maxLen; omega
  intro w1 hg1 hs1 hb1
  have HG1 := hidI hg1
  clear hg1
  have hrd : Rd w1 3 (.slice ao l.length ca) l.length (l.flatMap encPk) := HA.out.below hb1
  have HRD := hidI hrd
  clear hrd
  go_wp2_with (refine wpList_copy_s (o := ⟨some 14, _, _, _, _, _⟩) rfl _ _ 22 22 rfl 66 3 Tryz.underlying22 twSizePick w.heap.size l.length (l.length + 2) _ (l.flatMap encPk) rfl rfl HRD.out _ _ HG1.out ?d1 one_encPkL ?_)
  case d1 => rw [flat_len encPk_len]; first | (simp; done) | (simp; omega)
  intro w2 hg2 hs2 hc2
  have hg2' : w2.heap[w.heap.size]? = some (.cells (l.flatMap encPk ++ [Value.int .u8 0, Value.int .i64 0, Value.int .i64 0, Value.int .u8 0, Value.int .i64 0, Value.int .i64 0]).toArray 66 (0, 0)) := by
    rw [hg2]
    rw [← List.replicate_append_replicate, List.flatten_append, List.drop_append_of_le_length (by simp), List.drop_of_length_le (by simp)]
    rfl
  have HG2 := hidI hg2'
  have HB2 := hidI (hc2.below hb1 (by omega) (by rintro k rfl; exact Nat.le_refl _))
  clear hg2 hg2' HG1 HRD hc2
  go_wp2_with fail
  go_loopw [5] (fun i wr => ∃ k : Nat, k ≤ 2 ∧ i = .int .i64 ((l.length + k : Nat) : Int) ∧ wr.heap[w.heap.size]? = some (.cells (twPick l k).toArray 66 (0, 0)) ∧ Below w.heap.size w wr ∧ w.heap.size < wr.heap.size) (fun i _ => l.length + 2 - (intOf i).toNat)
  case atStart => exact ⟨0, by omega, rfl, HG2.out, HB2.out, by omega⟩
  case round =>
    obtain ⟨k, hk, rfl, hblk, hbr, hsr⟩ := hrel
    by_cases h0 : k < 2
    · obtain ⟨A, R, hA, t1, t2⟩ := twPick_split l k h0
      rw [t1] at hblk
      have HA' := hidI hA
      have HH := hblk
      have d0 : wr.cell? ⟨w.heap.size, (l.length + k) * 3, none⟩ = some (Value.int .u8 0) := cell_of_block HH (by have hA9 := HA'.out; rw [List.getElem?_toArray, List.getElem?_append_right (by omega)]; simp [hA9])
      have f0 := free_of_block (o := (l.length + k) * 3) HH
      have d1 : wr.cell? ⟨w.heap.size, (l.length + k) * 3 + 1, none⟩ = some (Value.int .i64 0) := cell_of_block HH (by have hA9 := HA'.out; rw [List.getElem?_toArray, List.getElem?_append_right (by omega)]; simp [hA9])
      have f1 := free_of_block (o := (l.length + k) * 3 + 1) HH
      have d2 : wr.cell? ⟨w.heap.size, (l.length + k) * 3 + 2, none⟩ = some (Value.int .i64 0) := cell_of_block HH (by have hA9 := HA'.out; rw [List.getElem?_toArray, List.getElem?_append_right (by omega)]; simp [hA9])
      have f2 := free_of_block (o := (l.length + k) * 3 + 2) HH
      have HK := hidI hblk
      have HT := hidI t2
      clear hblk hA t1 t2 HH
      go_wp2_with fail
      refine (markPick_lit _ ((l.length + k : Nat) : Int) ⟨by omega, by omega⟩).mono ?_
      rintro e w3 ⟨rfl, hb3⟩
      have HH := blk hb3 HK.out
      clear d0 f0 d1 f1 d2 f2
      have d0 : w3.cell? ⟨w.heap.size, (l.length + k) * 3, none⟩ = some (Value.int .u8 0) := cell_of_block HH (by have hA9 := HA'.out; rw [List.getElem?_toArray, List.getElem?_append_right (by omega)]; simp [hA9])
      have f0 := free_of_block (o := (l.length + k) * 3) HH
      have d1 : w3.cell? ⟨w.heap.size, (l.length + k) * 3 + 1, none⟩ = some (Value.int .i64 0) := cell_of_block HH (by have hA9 := HA'.out; rw [List.getElem?_toArray, List.getElem?_append_right (by omega)]; simp [hA9])
      have f1 := free_of_block (o := (l.length + k) * 3 + 1) HH
      have d2 : w3.cell? ⟨w.heap.size, (l.length + k) * 3 + 2, none⟩ = some (Value.int .i64 0) := cell_of_block HH (by have hA9 := HA'.out; rw [List.getElem?_toArray, List.getElem?_append_right (by omega)]; simp [hA9])
      have f2 := free_of_block (o := (l.length + k) * 3 + 2) HH
      have HG3 := hidI HH
      clear HH
      go_wp2_with fail
      refine ⟨⟨k + 1, by omega, by go_num, ?_, ((((hbr.trans (hb3.mono hbr.size)).setCell (Nat.le_refl _) _).setCell (Nat.le_refl _) _).setCell (Nat.le_refl _) _), by have := hb3.size; simp [World.setCell]; omega⟩, by simp [intOf]; omega⟩
      rw [HT.out, ← set3Pick A R (Value.int .u8 0) (Value.int .i64 0) (Value.int .i64 0) _ _ _ _ HA'.out]
      exact block_setCell _ (block_setCell _ (block_setCell _ (HG3.out)))
    · obtain rfl : k = 2 := by omega
      have HK := hidI hblk
      clear hblk
      go_wp2
      go_ret
      exact ⟨w.heap.size, Nat.le_refl _, rfl, by rw [← twPick_two]; exact HK.out, hbr⟩

theorem headPicks {w : World} {g : Nat} {t : TypeId} {l m : List PickD} {c : Nat} (h : w.heap[g]? = some (.cells ((l ++ m).flatMap encPk).toArray t (0, 0))) (hc : l.length ≤ c) : RdT encPk w 3 (.slice (some ⟨g, 0, none⟩) l.length c) l := by
  refine ⟨flat_len encPk_len l, _, _, rfl, hc, fun _ => ⟨g, 0, rfl, lt_of_block h, fun j u hj => ?_⟩⟩
  rw [Nat.zero_add]
  refine cell_of_block h ?_
  have hlt := (List.getElem?_eq_some_iff.1 hj).1
  simp only [List.getElem?_toArray, List.flatMap_append]
  rw [List.getElem?_append_left hlt]
  exact hj

set_option maxRecDepth 100000 in
set_option maxHeartbeats 2000000 in
theorem leftPicks_true {w : World} {g : Nat} {bo : Option Addr} {cb : Nat} {l : List PickD} (hg : w.heap[g]? = some (.cells ((l ++ [tmarkPick l.length, tmarkPick (l.length + 1)]).flatMap encPk).toArray 66 (0, 0)))
    (hb : RdT encPk w 3 (.slice bo l.length cb) l) (hm : l.length ≤ 262144) :
    Calls Tryz.prog 13 #[.slice (some ⟨g, 0, none⟩) l.length (l.length + 2), .slice bo l.length cb] w fun e w' => e = .returned (.bool true) ∧ Below w.heap.size w w' := by
  have HG := hidI hg
  have HB := hidI hb
  clear hg hb
  go_enter Tryz.func13, Tryz.ntmps13
  go_wp2_with fail
  go_loopw [6] (fun i wr => ∃ k : Nat, k ≤ 2 ∧ i = .int .i64 ((l.length + k : Nat) : Int) ∧ Below w.heap.size w wr) (fun i _ => l.length + 2 - (intOf i).toNat)
  case atStart => exact ⟨0, by omega, rfl, Below.refl _ _⟩
  case round =>
    obtain ⟨k, hk, rfl, hbr⟩ := hrel
    have HBR := hidI hbr
    clear hbr
    by_cases h0 : k < 2
    · have hx : (l ++ [tmarkPick l.length, tmarkPick (l.length + 1)])[l.length + k]? = some (tmarkPick ((l.length + k : Nat) : Int)) := by
        rcases (by omega : k = 0 ∨ k = 1) with rfl | rfl
        · simp
        · simp
      have d0 : wr.cell? ⟨g, (l.length + k) * 3, none⟩ = some (Value.int .u8 0) := cell_of_block (blk HBR.out HG.out) (by have := flat_at encPk_len _ hx 0 _ rfl; simpa [tmarkPick] using this)
      have d1 : wr.cell? ⟨g, (l.length + k) * 3 + 1, none⟩ = some (Value.int .i64 (-1000 - ((l.length + k : Nat) : Int))) := cell_of_block (blk HBR.out HG.out) (by have := flat_at encPk_len _ hx 1 _ rfl; simpa [tmarkPick] using this)
      have d2 : wr.cell? ⟨g, (l.length + k) * 3 + 2, none⟩ = some (Value.int .i64 0) := cell_of_block (blk HBR.out HG.out) (by have := flat_at encPk_len _ hx 2 _ rfl; simpa [tmarkPick] using this)
      clear hx
      go_wp2_with fail
      refine (isPick_any _ ((l.length + k : Nat) : Int) ⟨by omega, by omega⟩).mono ?_
      rintro e w3 ⟨rfl, hb3⟩
      have HB3 := hidI (HBR.out.trans (hb3.mono HBR.out.size))
      clear hb3
      go_wp2_with fail
      exact ⟨⟨k + 1, by omega, by go_num, HB3.out⟩, by simp [intOf]; omega⟩
    · obtain rfl : k = 2 := by omega
      go_wp2_with fail
      refine (samePicksT_true (l := l) (headPicks (blk HBR.out HG.out) (by omega)) (Rd.below HB.out HBR.out) (by omega)).mono ?_
      rintro e w3 ⟨rfl, hb3⟩
      have HB3 := hidI (HBR.out.trans (hb3.mono HBR.out.size))
      clear hb3
      go_wp2_with fail
      go_ret
      exact ⟨rfl, HB3.out⟩
end

section
def zeroBook : Array Value := (.int .i64 0 :: List.replicate 27 (.slice none 0 0)).toArray
theorem zero_book (w : World) : (zeroValue 59).run Tryz.prog w = .ok (.agg zeroBook) w := by kernel_rfl
theorem zbook_size : zeroBook.size = 28 := by decide +kernel
theorem zbook_one : zeroBook.all (·.oneCell') = true := by decide +kernel
theorem zbook_info : (Tryz.prog.info? 59).map (·.size) = some zeroBook.size := by kernel_rfl
theorem zbook_at (i : Nat) (h0 : 0 < i) (h : i < 28) : zeroBook[i]? = some (.slice none 0 0) := by
  unfold zeroBook
  obtain ⟨j, rfl⟩ : ∃ j, i = j + 1 := ⟨i - 1, by omega⟩
  rw [List.getElem?_toArray, List.getElem?_cons_succ, List.getElem?_replicate, if_pos (by omega)]
theorem zbook_0 : zeroBook[0]? = some (.int .i64 0) := by kernel_rfl
theorem book_setF {C : Array Value} {hv x : Value} {f : Nat} (hs : C.size = 28) (h0 : 0 < f) (hf : f < 28) : ((C.setIfInBounds f hv).setIfInBounds 0 x)[f]? = some hv := by
  rw [Array.getElem?_setIfInBounds_ne (by omega), Array.getElem?_setIfInBounds_self, if_pos (by omega)]
theorem book_set0 {C : Array Value} {hv x : Value} {f : Nat} (hs : C.size = 28) : ((C.setIfInBounds f hv).setIfInBounds 0 x)[0]? = some x := by
  rw [Array.getElem?_setIfInBounds_self, if_pos (by rw [Array.size_setIfInBounds]; omega)]
theorem book_setN {C : Array Value} {hv x : Value} {i f : Nat} (h0 : i ≠ 0) (hf : i ≠ f) : ((C.setIfInBounds f hv).setIfInBounds 0 x)[i]? = C[i]? := by
  rw [Array.getElem?_setIfInBounds_ne (by omega), Array.getElem?_setIfInBounds_ne (by omega)]
theorem book_store (w : World) : Sem.run Tryz.prog (storeCells ⟨w.heap.size, 0, none⟩ zeroBook.toList 0) (w.alloc (.cells zeroBook 59)) = .ok () ((w.alloc (.cells zeroBook 59)).setCells w.heap.size 0 zeroBook.toList) := by
  have hb := block_new w (.cells zeroBook 59)
  have := run_storeCells_cells (P := Tryz.prog) w.heap.size 0 zeroBook.toList 0 (w.alloc (.cells zeroBook 59)) (fun i hi => by
      rw [Nat.add_zero, Nat.zero_add, cell_of_block hb (Array.getElem?_eq_getElem (by rw [Array.length_toList] at hi; exact hi))]; rfl) (fun i _ => free_of_block hb)
    (fun v hv => Array.all_eq_true_iff_forall_mem.1 zbook_one v (by simpa using hv))
  simpa using this

theorem setCells_part {t : TypeId} {f : Nat × Nat} (b : Nat) (B : List Value) : ∀ (vs mid A : List Value) (o : Nat) (w : World), w.heap[b]? = some (.cells (A ++ mid ++ B).toArray t f) → A.length = o → mid.length = vs.length →
    (w.setCells b o vs).heap[b]? = some (.cells (A ++ vs ++ B).toArray t f)
  | [], mid, A, o, w, h, _, hm => by
    have : mid = [] := List.eq_nil_of_length_eq_zero (by simpa using hm)
    subst this
    exact h
  | v :: r, [], A, o, w, h, _, hm => by simp at hm
  | v :: r, u :: mid, A, o, w, h, hA, hm => by
    have h1 := block_setCell (o := o) v h
    have e1 : ((A ++ u :: mid ++ B).toArray.setIfInBounds o v) = (A ++ [v] ++ mid ++ B).toArray := by
      subst hA
      simp [List.setIfInBounds_toArray, List.set_append]
    rw [e1] at h1
    have := setCells_part b B r mid (A ++ [v]) (o + 1) (w.setCell ⟨b, o, none⟩ v) h1 (by simp [hA]) (by simpa using hm)
    simpa [World.setCells] using this
theorem setCells_whole {w : World} {g : Nat} {c : Array Value} {t : TypeId} {f : Nat × Nat} {vs : List Value} (h : w.heap[g]? = some (.cells c t f)) (hl : c.size = vs.length) : (w.setCells g 0 vs).heap[g]? = some (.cells vs.toArray t f) := by
  have := setCells_part g [] vs c.toList [] 0 w (by simpa using h) rfl (by simpa using hl)
  simpa using this
theorem below_setCells {B : Nat} {a : World} {g : Nat} (hg : B ≤ g) (hB : B ≤ a.heap.size) : ∀ (vs : List Value) (o : Nat) {w : World}, Below B a w → Below B a (w.setCells g o vs)
  | [], _, _, h => h
  | v :: r, o, w, h => by
    rw [World.setCells]
    exact below_setCells hg hB r (o + 1) (Chg.below (S := fun k => k = g) h (Nat.le_trans hB h.size) ((Chg.refl (fun k => k = g) w).setCell (p := ⟨g, o, none⟩) (.inl rfl) v) (fun k hk => by omega))

theorem size_setCells (b : Nat) : ∀ (vs : List Value) (o : Nat) (w : World), (w.setCells b o vs).heap.size = w.heap.size
  | [], _, _ => rfl
  | v :: r, o, w => by rw [World.setCells, size_setCells b r]; simp [World.setCell]
/-- a book that was just laid -/
theorem book_fresh (w : World) : ((w.alloc (.cells zeroBook 59)).setCells w.heap.size 0 zeroBook.toList).heap[w.heap.size]? = some (.cells zeroBook 59 (0, 0)) ∧
    Below w.heap.size w ((w.alloc (.cells zeroBook 59)).setCells w.heap.size 0 zeroBook.toList) ∧ w.heap.size < ((w.alloc (.cells zeroBook 59)).setCells w.heap.size 0 zeroBook.toList).heap.size := by
  refine ⟨?_, below_setCells (Nat.le_refl _) (Nat.le_refl _) _ 0 ((Below.refl _ _).alloc (Nat.le_refl _) _), by rw [size_setCells]; simp⟩
  have h := setCells_whole (vs := zeroBook.toList) (block_new w (.cells zeroBook 59)) Array.length_toList.symm
  rwa [show zeroBook.toList.toArray = zeroBook from Array.toArray_toList] at h
end

section
theorem snocGetPick {α : Type} {l : List α} {i : Nat} {y z : α} (h : (l ++ [y])[i]? = some z) : z = y ∨ l[i]? = some z := by
  rcases Nat.lt_or_ge i l.length with h1 | h1
  · rw [List.getElem?_append_left h1] at h; exact .inr h
  · rw [List.getElem?_append_right h1] at h
    have := (List.getElem?_eq_some_iff.1 h).1
    simp at this
    obtain rfl : i = l.length := by omega
    simp at h
    exact .inl h.symm

structure BkStPick (w : World) (base kb cnt : Nat) (O : Nat → Prop) (C : Array Value) (hPick : Value) (ePick : List EntPick) : Prop where
  blk : w.heap[kb]? = some (.cells C 59 (0, 0))
  csz : C.size = 28
  c0 : C[0]? = some (.int .i64 (cnt : Int))
  cPick : C[9]? = some hPick
  cno : (∀ i, 0 < i → i < 28 → i ≠ 9 → C[i]? = some (.slice none 0 0))
  kPick : KindPick w base kb hPick ePick
  nPick : ePick.length ≤ cnt
  lPick : (∀ (i : Nat) e, ePick[i]? = some e → e.len ≤ 1000000)
  oPick : (∀ g, ownsPick hPick ePick g → O g)
  cm : cnt ≤ 1000000
/-- the book: cnt lists have been kept; whatever block it owns is in O -/
def BkPick (w : World) (base kb cnt : Nat) (O : Nat → Prop) : Prop := ∃ C hPick ePick, BkStPick w base kb cnt O C hPick ePick

theorem BkPick.nil {w : World} {base kb : Nat} {O : Nat → Prop} (h : w.heap[kb]? = some (.cells zeroBook 59 (0, 0))) : BkPick w base kb 0 O :=
  ⟨zeroBook, .slice none 0 0, [], h, zbook_size, zbook_0, zbook_at 9 (by decide) (by decide), fun i h0 h1 _ => zbook_at i h0 h1,
    nilPick _ _ _, by simp, fun i e he => by simp at he, fun g hg => by rcases hg with hg | ⟨i, e, he, hg⟩ <;> first | (simp [Value.ownBlock] at hg; done) | (simp at he; done),
    by omega⟩

theorem BkPick.keep {w w' : World} {base kb cnt : Nat} {O : Nat → Prop} (h : BkPick w base kb cnt O) (hk : ∀ g, g = kb ∨ O g → g < w.heap.size → w'.heap[g]? = w.heap[g]?) : BkPick w' base kb cnt O := by
  obtain ⟨C, hPick, ePick, h⟩ := h
  exact ⟨C, hPick, ePick, (hk kb (.inl rfl) (lt_of_block h.blk)).trans h.blk, h.csz, h.c0, h.cPick, h.cno, h.kPick.keep (fun g hg hl => hk g (.inr (h.oPick g hg)) hl), h.nPick, h.lPick, h.oPick, h.cm⟩
theorem BkPick.below {w w' : World} {base kb cnt : Nat} {O : Nat → Prop} (h : BkPick w base kb cnt O) (hb : Below w.heap.size w w') : BkPick w' base kb cnt O := h.keep fun g _ hl => hb.block g hl
theorem BkPick.wide {w : World} {base kb cnt : Nat} {O O' : Nat → Prop} (h : BkPick w base kb cnt O) (ho : ∀ g, O g → O' g) : BkPick w base kb cnt O' := by
  obtain ⟨C, hPick, ePick, h⟩ := h
  exact ⟨C, hPick, ePick, h.blk, h.csz, h.c0, h.cPick, h.cno, h.kPick, h.nPick, h.lPick, fun g hg => ho g (h.oPick g hg), h.cm⟩

theorem bkPick_keepPick {w : World} {base kb cnt n lc : Nat} {O : Nat → Prop} {lo : Option Addr} {cs : List Value} (h : BkPick w base kb cnt O) (hc : cnt < 1000000) (hn : n ≤ 1000000) (hown : w.ownsRow base 66 3 (.slice lo n lc) n cs) (hfree : ∀ g, (Value.slice lo n lc).ownBlock = some g → ¬ O g ∧ g ≠ kb) (hbase : base ≤ w.heap.size) :
    Calls Tryz.prog 21 #[.pointer (some ⟨kb, 0, none⟩), .slice lo n lc] w fun r w' => r = .returned (.tuple #[]) ∧ BkPick w' base kb (cnt + 1) (fun g => O g ∨ w.heap.size ≤ g ∨ (Value.slice lo n lc).ownBlock = some g) ∧ Chg (fun k => k = kb ∨ O k) w w' := by
  obtain ⟨C, hPick, ePick, h⟩ := h
  refine (keepPick_any h.kPick h.blk h.cPick h.c0 (by omega) (by have := h.nPick; omega) hown (fun g hg => ⟨fun e => (hfree g hg).1 (h.oPick g (.inl e)), (hfree g hg).2⟩) (fun i g e he h1 h2 => (hfree g h2).1 (h.oPick g (.inr ⟨i, e, he, h1⟩))) hbase).mono ?_
  rintro r w' ⟨rfl, hv', hblk, hkind, hchg, hfrom⟩
  have hO : ∀ g, ownsPick hv' (ePick ++ [⟨.slice lo n lc, cnt, n⟩]) g → ownsPick hPick ePick g ∨ w.heap.size ≤ g ∨ (Value.slice lo n lc).ownBlock = some g := by
    rintro g (hg | ⟨i, e, he, hg⟩)
    · exact (hfrom g hg).imp (fun q => .inl q) (fun q => .inl q)
    · rcases snocGetPick he with rfl | he
      · exact .inr (.inr hg)
      · exact .inl (.inr ⟨i, e, he, hg⟩)
  have hlt : ∀ g, ownsPick hPick ePick g → g < w.heap.size := fun g hg => (h.kPick.from hg).2
  refine ⟨rfl, ⟨_, hv', _, hblk, by rw [Array.size_setIfInBounds, Array.size_setIfInBounds]; exact h.csz, ?_, book_setF h.csz (by decide) (by decide), fun i h0 h1 qPick => by rw [book_setN (by omega) qPick]; exact h.cno i h0 h1 qPick,
    hkind, by rw [List.length_append, List.length_singleton]; have := h.nPick; omega, fun i e he => by rcases snocGetPick he with rfl | he; exact hn; exact h.lPick i e he, fun g hg => (hO g hg).imp (h.oPick g) id,
    by omega⟩, ⟨hchg.os, hchg.tape, hchg.output, hchg.size, fun k hk hn => hchg.block k hk (fun e => hn (e.imp id (fun q => h.oPick k (.inl q))))⟩⟩
  rw [book_set0 h.csz]
  simp

theorem bkPick_apart {w : World} {base kb cnt : Nat} {O : Nat → Prop} (h : BkPick w base kb cnt O) : Calls Tryz.prog 12 #[.pointer (some ⟨kb, 0, none⟩)] w fun r w' => r = .returned (.bool true) ∧ Chg O w w' := by
  obtain ⟨C, hPick, ePick, h⟩ := h
  have hcm := h.cm
  refine (apartPick_any (M := 1000000) h.kPick h.lPick h.cPick (by have := h.nPick; omega)  (by decide) h.blk h.cno).mono ?_
  rintro r w' ⟨rfl, hc⟩
  exact ⟨rfl, ⟨hc.os, hc.tape, hc.output, hc.size, fun k hk hn => hc.block k hk (fun e => hn (by
    rcases e with e
    · exact h.oPick k e))⟩⟩
end

section
variable {w0 w w' : World}

/-- a row of picks: where it lies, how long it is -/
structure RowV where
  lo : Option Addr
  n : Nat
  lc : Nat
  cs : List Value
def RowV.v (r : RowV) : Value := .slice r.lo r.n r.lc

structure BkSt (w0 w : World) (kb cnt : Nat) (O : Nat → Prop) (rows : List RowV) (g : Nat) (X : Obj) : Prop where
  bk : BkPick w w0.heap.size kb cnt O
  own : ∀ r ∈ rows, w.ownsRow w0.heap.size 66 3 r.v r.n r.cs
  free : ∀ r ∈ rows, ∀ k, r.v.ownBlock = some k → ¬ O k ∧ k ≠ kb
  pw : rows.Pairwise (fun r s => ∀ k, r.v.ownBlock = some k → s.v.ownBlock ≠ some k)
  blk : w.heap[g]? = some X
  gfree : ¬ O g ∧ g ≠ kb ∧ ∀ r ∈ rows, r.v.ownBlock ≠ some g
  low : ∀ k, O k → w0.heap.size ≤ k
  kl : w0.heap.size ≤ kb
  old : Below w0.heap.size w0 w

set_option maxHeartbeats 400000 in
theorem picksKeep_any {w : World} {base kb cnt n lc : Nat} {O : Nat → Prop} {lo : Option Addr} {cs : List Value} (h : BkPick w base kb cnt O) (hc : cnt < 1000000) (hn : n ≤ 1000000) (hown : w.ownsRow base 66 3 (.slice lo n lc) n cs) (hfree : ∀ g, (Value.slice lo n lc).ownBlock = some g → ¬ O g ∧ g ≠ kb) (hbase : base ≤ w.heap.size) :
    Calls Tryz.prog 11 #[.pointer (some ⟨kb, 0, none⟩), .slice lo n lc] w fun r w' => r = .returned (.tuple #[]) ∧ BkPick w' base kb (cnt + 1) (fun g => O g ∨ w.heap.size ≤ g ∨ (Value.slice lo n lc).ownBlock = some g) ∧ Chg (fun k => k = kb ∨ O k) w w' := by
  have HK := hidI (bkPick_keepPick h hc hn hown hfree hbase)
  clear h hc hn hown hfree hbase
  go_enter Tryz.func11, Tryz.ntmps11
  go_wp2_with fail
  refine HK.out.mono ?_
  rintro e w1 ⟨rfl, h1, h2⟩
  have HK1 := hidI (And.intro h1 h2)
  clear h1 h2
  go_wp2_with fail
  go_end0
  exact ⟨rfl, HK1.out⟩

/-- the next row is taken -/
theorem BkSt.step {kb cnt : Nat} {O : Nat → Prop} {r : RowV} {rows : List RowV} {g : Nat} {X : Obj} (h : BkSt w0 w kb cnt O (r :: rows) g X) (hc : cnt < 1000000) (hn : r.n ≤ 1000000) :
    Calls Tryz.prog 11 #[.pointer (some ⟨kb, 0, none⟩), .slice r.lo r.n r.lc] w fun e w' => e = .returned (.tuple #[]) ∧ BkSt w0 w' kb (cnt + 1) (fun k => O k ∨ w.heap.size ≤ k ∨ r.v.ownBlock = some k) rows g X := by
  refine (picksKeep_any h.bk hc hn (h.own r (by simp)) (h.free r (by simp)) h.old.size).mono ?_
  rintro e w' ⟨rfl, hb, hchg⟩
  have hpw := List.pairwise_cons.1 h.pw
  have hg := h.gfree
  have hlg := lt_of_block h.blk
  refine ⟨rfl, hb, fun s hs => ?_, fun s hs k hk => ?_, hpw.2, ?_, ?_, fun k hk => ?_, h.kl, ?_⟩
  · have hf := h.free s (List.mem_cons_of_mem _ hs)
    exact ownsRow_chg (h.own s (List.mem_cons_of_mem _ hs)) hchg (fun k hk e => by
      rcases e with e | e
      · exact (hf k hk).2 e
      · exact (hf k hk).1 e)
  · have hf := h.free s (List.mem_cons_of_mem _ hs) k hk
    refine ⟨fun e => ?_, hf.2⟩
    rcases e with e | e | e
    · exact hf.1 e
    · have := (rowLt (h.own s (List.mem_cons_of_mem _ hs)) hk).2; omega
    · exact hpw.1 s hs k e hk
  · exact chgblk hchg h.blk (fun e => by
      rcases e with e | e
      · exact hg.2.1 e
      · exact hg.1 e)
  · refine ⟨fun e => ?_, hg.2.1, fun s hs => hg.2.2 s (List.mem_cons_of_mem _ hs)⟩
    rcases e with e | e | e
    · exact hg.1 e
    · omega
    · exact hg.2.2 r (by simp) e
  · rcases hk with e | e | e
    · exact h.low k e
    · have := h.old.size; omega
    · exact (rowLt (h.own r (by simp)) e).1
  · exact Chg.below h.old h.old.size hchg (fun k hk => by
      rcases hk with rfl | e
      · exact h.kl
      · exact h.low k e)
/-- all are taken: whether they are apart -/
theorem BkSt.done {kb cnt : Nat} {O : Nat → Prop} {g : Nat} {X : Obj} (h : BkSt w0 w kb cnt O [] g X) :
    Calls Tryz.prog 12 #[.pointer (some ⟨kb, 0, none⟩)] w fun e w' => e = .returned (.bool true) ∧ w'.heap[g]? = some X ∧ Below w0.heap.size w0 w' := by
  refine (bkPick_apart h.bk).mono ?_
  rintro e w' ⟨rfl, hc⟩
  exact ⟨rfl, chgblk hc h.blk h.gfree.1, Chg.below h.old h.old.size hc h.low⟩
end

section
variable {w w' : World}

/-- the book before its first row -/
theorem BkSt.start {w0 w : World} {rows : List RowV} {g : Nat} {X : Obj} (hb : Below w0.heap.size w0 w) (hown : ∀ r ∈ rows, w.ownsRow w0.heap.size 66 3 r.v r.n r.cs)
    (hpw : rows.Pairwise (fun r s => ∀ k, r.v.ownBlock = some k → s.v.ownBlock ≠ some k)) (hblk : w.heap[g]? = some X) (hg : ∀ r ∈ rows, r.v.ownBlock ≠ some g) :
    BkSt w0 (w.alloc (.cells zeroBook 59)) w.heap.size 0 (fun _ => False) rows g X := by
  have hlg := lt_of_block hblk
  exact ⟨BkPick.nil (block_new w _), fun r hr => ownRow_keep (hown r hr) fun k _ hl => ((Below.refl w.heap.size w).alloc (Nat.le_refl _) _).block k hl, fun r hr k hk => ⟨id, by have := (rowLt (hown r hr) hk).2; omega⟩, hpw, block_alloc hblk,
    ⟨id, by omega, hg⟩, fun k h => h.elim, hb.size, hb.alloc hb.size _⟩

set_option maxRecDepth 100000 in
set_option maxHeartbeats 4000000 in
theorem cuts_any (hlives : ∀ w : World, Calls Tryz.prog 14 #[] w fun e w' => e = .returned (.bool true) ∧ Below w.heap.size w w') {ao : Option Addr} {cap : Nat} {l : List PickD} (h : RdT encPk w 3 (.slice ao l.length cap) l) (hm : l.length < 2 ^ 62)
    (hn : ∀ p ∈ l, -9223372036854775808 ≤ p.n ∧ p.n ≤ 9223372036854775807 ∧ 0 ≤ p.kind) (first : Int) :
    Calls Tryz.prog 3 #[.slice ao l.length cap, .int .i64 first] w fun e w' => e = .returned (.bool true) ∧ Below w.heap.size w w' := by
  have HA := hidI h
  have HM := hidI hm
  have HN := hidI hn
  have HLV := hidI hlives
  clear h hm hn hlives
  go_enter Tryz.func3, Tryz.ntmps3
  go_wp2_with fail
  have hbb : Below w.heap.size w (w.alloc (.cells #[.int .i64 (l.length : Int)] 3)) := (Below.refl _ _).alloc (Nat.le_refl _) _
  refine (beyond1 l.length (block_new w _) HM.out).mono ?_
  rintro e w1 ⟨rfl, hb⟩
  have HB1 := hidI (bnext hbb hb)
  clear hb hbb
  by_cases hbig : 262144 < l.length
  · rw [show decide (262144 < l.length) = true from by simpa using hbig]
    go_wp2_with fail
    go_ret
    exact ⟨rfl, HB1.out⟩
  · rw [show decide (262144 < l.length) = false from by simpa using hbig]
    have hl : l.length ≤ 262144 := by omega
    have HL := hidI hl
    clear hbig
    go_wp2_with fail
    refine (twinPicks_any (Rd.below HA.out HB1.out) HL.out).mono ?_
    rintro e w2 ⟨g, hg, rfl, hblk, hb⟩
    have HB2 := hidI (bnext HB1.out hb)
    have HK2 := hidI hblk
    have HG := hidI (show w.heap.size ≤ g from Nat.le_trans HB1.out.size hg)
    have HG2 := hidI (lt_of_block hblk)
    clear hg hblk hb
    go_wp2_with fail
    refine (length_any (headPicks HK2.out (by omega)) (by have := HL.out; omega) (fun p hp => ⟨(HN.out p hp).1, (HN.out p hp).2.2⟩)).mono ?_
    rintro e w3 ⟨rfl, hb⟩
    have HB3 := hidI (bnext HB2.out hb)
    have HK3 := hidI (blk hb HK2.out)
    have HG3 := hidI (Nat.lt_of_lt_of_le HG2.out hb.size)
    clear hb
    go_wp2_with fail
    refine (tail_one (headPicks HK3.out (by omega)) (by have := HL.out; omega) HN.out first).mono ?_
    rintro e w4 ⟨ao1, ca1, bo1, cb1, rfl, ha1, hb1, hd1, hb⟩
    have HA1 := hidI ha1
    have HC1 := hidI hb1
    have HD1 := hidI hd1
    have HB34 := hidI hb
    have HB4 := hidI (bnext HB3.out hb)
    have HK4 := hidI (blk hb HK3.out)
    clear ha1 hb1 hd1 hb
    go_wp2_with fail
    refine (tail_one (headPicks HK4.out (by omega)) (by have := HL.out; omega) HN.out first).mono ?_
    rintro e w5 ⟨ao2, ca2, bo2, cb2, rfl, ha1, hb1, hd1, hb⟩
    have HA2 := hidI ha1
    have HC2 := hidI hb1
    have HD2 := hidI hd1
    have HB45 := hidI hb
    have HB5 := hidI (bnext HB4.out hb)
    have HK5 := hidI (blk hb HK4.out)
    clear ha1 hb1 hd1 hb
    go_wp2_with fail
    refine (lengthR_any (Rd.below HA.out HB5.out) (by have := HL.out; omega)).mono ?_
    rintro e w6 ⟨rfl, hb⟩
    have HB56 := hidI hb
    have HB6 := hidI (bnext HB5.out hb)
    clear hb
    go_wp2_with fail
    refine (tailR_one (Rd.below HA.out HB6.out) (by have := HL.out; omega) HN.out first).mono ?_
    rintro e w7 ⟨ao3, ca3, bo3, cb3, rfl, ha1, hb1, hd1, hb⟩
    have HA3 := hidI ha1
    have HC3 := hidI hb1
    have HB57 := hidI (bnext HB56.out hb)
    have HB7 := hidI (bnext HB6.out hb)
    have HK7 := hidI (blk HB57.out HK5.out)
    clear ha1 hb1 hd1 hb
    have HLA := hidI (cut_len l first)
    generalize (lengthS l).1 = z1 at *
    generalize (lengthS l).2 = z2 at *
    generalize tailE l first = z3 at *
    generalize cutA l first = A at *
    generalize cutB l first = B at *
    have hz1 : (z1 != z1) = false := by simp
    have hz2 : (z2 != z2) = false := by simp
    have hz3 : (z3 != z3) = false := by simp
    have R1 := hidI (Rd.below (Rd.below (Rd.of_own HA1.out) HB45.out) HB57.out)
    have S1 := hidI (Rd.below (Rd.below (Rd.of_own HC1.out) HB45.out) HB57.out)
    have R2 := hidI (Rd.below (Rd.of_own HA2.out) HB57.out)
    have S2 := hidI (Rd.below (Rd.of_own HC2.out) HB57.out)
    go_wp2_with fail
    refine (samePicksE_true (l := A) R1.out (Rd.of_own HA3.out) rfl rfl (by have := HLA.out; have := HL.out; omega)).mono ?_
    rintro e w8 ⟨rfl, hb⟩
    have HB8 := hidI hb
    clear hb
    go_wp2_with fail
    refine (samePicksE_true (l := B) (Rd.below S1.out HB8.out) (Rd.below (Rd.of_own HC3.out) HB8.out) rfl rfl (by have := HLA.out; have := HL.out; omega)).mono ?_
    rintro e w9 ⟨rfl, hb⟩
    have HB9 := hidI (bnext HB8.out hb)
    clear hb
    go_wp2_with fail
    refine (samePicksE_true (l := A) (Rd.below R2.out HB9.out) (Rd.below (Rd.of_own HA3.out) HB9.out) rfl rfl (by have := HLA.out; have := HL.out; omega)).mono ?_
    rintro e w10 ⟨rfl, hb⟩
    have HB10 := hidI (bnext HB9.out hb)
    clear hb
    go_wp2_with fail
    refine (samePicksE_true (l := B) (Rd.below S2.out HB10.out) (Rd.below (Rd.of_own HC3.out) HB10.out) rfl rfl (by have := HLA.out; have := HL.out; omega)).mono ?_
    rintro e w11 ⟨rfl, hb⟩
    have HB11 := hidI (bnext HB10.out hb)
    have HBW := hidI (bnext HB7.out HB11.out)
    have HB5E := hidI (bnext HB57.out HB11.out)
    clear hb hz1 hz2 hz3
    have hs : BkSt w (w11.alloc (.cells zeroBook 59)) w11.heap.size 0 (fun _ => False) [⟨ao1, A.length, ca1, A.flatMap encPk⟩, ⟨bo1, B.length, cb1, B.flatMap encPk⟩, ⟨ao2, A.length, ca2, A.flatMap encPk⟩, ⟨bo2, B.length, cb2, B.flatMap encPk⟩] g _ :=
      BkSt.start HBW.out (fun r hr => by
        have l3 := HB3.out.size
        have l4 := HB4.out.size
        simp only [List.mem_cons, List.not_mem_nil, or_false] at hr
        rcases hr with rfl | rfl | rfl | rfl
        · exact ownsRow_mono (ownRow_keep (ownRow_keep HA1.out fun k _ hl => HB45.out.block k hl) fun k _ hl => HB5E.out.block k hl) l3
        · exact ownsRow_mono (ownRow_keep (ownRow_keep HC1.out fun k _ hl => HB45.out.block k hl) fun k _ hl => HB5E.out.block k hl) l3
        · exact ownsRow_mono (ownRow_keep HA2.out fun k _ hl => HB5E.out.block k hl) l4
        · exact ownsRow_mono (ownRow_keep HC2.out fun k _ hl => HB5E.out.block k hl) l4) (by
        have q1 : ∀ k, (Value.slice ao1 A.length ca1).ownBlock = some k → k < w4.heap.size := fun k hk => (rowLt HA1.out hk).2
        have q2 : ∀ k, (Value.slice bo1 B.length cb1).ownBlock = some k → k < w4.heap.size := fun k hk => (rowLt HC1.out hk).2
        have q3 : ∀ k, (Value.slice ao2 A.length ca2).ownBlock = some k → w4.heap.size ≤ k := fun k hk => (rowLt HA2.out hk).1
        have q4 : ∀ k, (Value.slice bo2 B.length cb2).ownBlock = some k → w4.heap.size ≤ k := fun k hk => (rowLt HC2.out hk).1
        refine List.pairwise_cons.2 ⟨fun s hs k hk => ?_, List.pairwise_cons.2 ⟨fun s hs k hk => ?_, List.pairwise_cons.2 ⟨fun s hs k hk => ?_, List.pairwise_singleton _ _⟩⟩⟩
        · simp only [List.mem_cons, List.not_mem_nil, or_false] at hs
          have := q1 k hk
          rcases hs with rfl | rfl | rfl
          · exact HD1.out k hk
          · exact fun e => by have := q3 k e; omega
          · exact fun e => by have := q4 k e; omega
        · simp only [List.mem_cons, List.not_mem_nil, or_false] at hs
          have := q2 k hk
          rcases hs with rfl | rfl
          · exact fun e => by have := q3 k e; omega
          · exact fun e => by have := q4 k e; omega
        · simp only [List.mem_cons, List.not_mem_nil, or_false] at hs
          rcases hs with rfl
          exact HD2.out k hk) (blk HB5E.out HK5.out) (fun r hr => by
        have l3 := HG3.out
        have l4 := HB34.out.size
        simp only [List.mem_cons, List.not_mem_nil, or_false] at hr
        rcases hr with rfl | rfl | rfl | rfl
        · exact fun e => by have := (rowLt HA1.out e).1; omega
        · exact fun e => by have := (rowLt HC1.out e).1; omega
        · exact fun e => by have := (rowLt HA2.out e).1; omega
        · exact fun e => by have := (rowLt HC2.out e).1; omega)
    have HS0 := hidI hs
    clear hs
    have hy1 := zero_book
    have hy2 := zbook_size
    go_wp2_with fail
    clear hy1 hy2
    generalize w11.alloc (.cells zeroBook 59) = wk at HS0 ⊢
    refine (BkSt.step HS0.out (by omega) (by have := HLA.out; have := HL.out; simp only; omega)).mono ?_
    rintro e w12 ⟨rfl, hs⟩
    have HS1 := hidI hs
    clear hs HS0
    go_wp2_with fail
    refine (BkSt.step HS1.out (by omega) (by have := HLA.out; have := HL.out; simp only; omega)).mono ?_
    rintro e w13 ⟨rfl, hs⟩
    have HS2 := hidI hs
    clear hs HS1
    go_wp2_with fail
    refine (BkSt.step HS2.out (by omega) (by have := HLA.out; have := HL.out; simp only; omega)).mono ?_
    rintro e w14 ⟨rfl, hs⟩
    have HS3 := hidI hs
    clear hs HS2
    go_wp2_with fail
    refine (BkSt.step HS3.out (by omega) (by have := HLA.out; have := HL.out; simp only; omega)).mono ?_
    rintro e w15 ⟨rfl, hs⟩
    have HS4 := hidI hs
    clear hs HS3
    go_wp2_with fail
    refine HS4.out.done.mono ?_
    rintro e w16 ⟨rfl, hq, hb⟩
    have HQ := hidI hq
    have HB16 := hidI hb
    clear hq hb
    go_wp2_with fail
    refine (leftPicks_true HQ.out (Rd.below HA.out HB16.out) HL.out).mono ?_
    rintro e w17 ⟨rfl, hb⟩
    have HB17 := hidI (bnext HB16.out hb)
    clear hb
    go_wp2_with fail
    refine (HLV.out _).mono ?_
    rintro e w18 ⟨rfl, hb⟩
    have HB18 := hidI (bnext HB17.out hb)
    clear hb
    go_wp2_with fail
    go_ret
    exact ⟨rfl, HB18.out⟩
end

section
theorem wf8P {n : Int} (h : (Lit.int .u8 n).wf = true) : 0 ≤ n ∧ n < 256 := by
  simp [Lit.wf] at h
  have e1 : IntKind.u8.min = 0 := by decide
  have e2 : IntKind.u8.max = 255 := by decide
  omega
def in64 (z : Int) : Prop := -9223372036854775808 ≤ z ∧ z ≤ 9223372036854775807
def PickOk (p : PickD) : Prop := (0 ≤ p.kind ∧ p.kind < 256) ∧ in64 p.th ∧ in64 p.n
set_option maxRecDepth 100000 in
theorem pick_elem {H : Type} {enc : TypeId × Value → H} {w : World} {held : Bool} (fuel : Nat) (cs : List Value) (x : DataW H × List MemPlace) (h : DataW.trod enc Tryz.prog w 0 (fun _ => true) held fuel 66 cs = some x) : ∃ a, cs = encPk a ∧ PickOk a := by
  obtain ⟨xs, n, _, rfl, hl, hlen, hf⟩ := DataW.trod_struct Tryz.underlying66 h
  rw [show Tryz.prog.cellsOf 66 = 3 from by kernel_rfl] at hl
  match xs, hlen with
  | [y0, y1, y2], _ =>
  have e1 : Tryz.prog.cellsOf 64 = 1 := by kernel_rfl
  have e2 : Tryz.prog.cellsOf 3 = 1 := by kernel_rfl
  obtain ⟨v0, h0, -, w0⟩ := DataW.trod_int Tryz.underlying64 (hf 0 _ rfl)
  obtain ⟨v1, h1, -, w1⟩ := DataW.trod_int Tryz.underlying3 (hf 1 _ rfl)
  obtain ⟨v2, h2, -, w2⟩ := DataW.trod_int Tryz.underlying3 (hf 2 _ rfl)
  match cs, hl with
  | [c0, c1, c2], _ =>
    simp [e1] at h0
    simp [e2] at h1 h2
    exact ⟨⟨v0, v1, v2⟩, by simp [encPk, h0, h1, h2], wf8P w0, wf_i64 w1, wf_i64 w2⟩
theorem cuts_ok {w : World} {ao : Option Addr} {cap : Nat} {l : List PickD} (h : RdT encPk w 3 (.slice ao l.length cap) l) (hm : l.length < 2 ^ 62) (hn : ∀ p ∈ l, PickOk p) (first : Int) :
    Calls Tryz.prog 3 #[.slice ao l.length cap, .int .i64 first] w fun e w' => e = .returned (.bool true) ∧ Below w.heap.size w w' :=
  cuts_any lives21 h hm (fun p hp => by have := hn p hp; exact ⟨this.2.2.1, this.2.2.2, this.1.1⟩) first
end

end Go.Proofs.YtmjppdlhglkelaaGreatDoor

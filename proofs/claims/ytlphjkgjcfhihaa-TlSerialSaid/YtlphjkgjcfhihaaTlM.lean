/- Package tl2: the contracts of do and Run. -/
import Derived.Test.YtlphjkgjcfhihaaTlK
import Derived.Deep.CutRange
namespace Go.Proofs.Ytlphjkgjcfhihaa
set_option linter.unusedVariables false
set_option linter.unusedSimpArgs false
open Go.RowKit

variable {w w' : World} {base b m t : Nat} {tw : TW} {ts : List (Th × Value)} {ev : Value}

/-- api.TxOp: Thread, Kind, At, V -/
def encTx (o : Tx) : List Value := [.int .i64 o.th, .int .u8 o.kind, .int .i64 o.at_, .int .i64 o.v]
theorem encTx_len : ∀ o, (encTx o).length = 4 := fun _ => rfl
def txAgg (o : Tx) : Value := .agg #[.int .i64 o.th, .int .u8 o.kind, .int .i64 o.at_, .int .i64 o.v]

set_option maxHeartbeats 1000000 in
theorem do_out (h : TlAt w base b m t tw ts ev) (o : Tx) (ho : o.th < 0 ∨ tw.ths.length ≤ o.th) :
    Calls Try.prog 12 #[.pointer (some ⟨b, 0, none⟩), txAgg o] w (TlDone base b m t (tw.do_ o) w) := by
  have HR := hidI (show tw.do_ o = tw from by
    unfold TW.do_
    split
    · rfl
    · rw [List.getElem?_eq_none (by omega)])
  have hts : tw.ths.length = ts.length := by rw [h.same]; simp
  rw [hts] at ho
  have H0 := hidI (h.below ((Below.refl _ _).alloc (Nat.le_refl _) (.cells #[.int .i64 o.th, .int .u8 o.kind, .int .i64 o.at_, .int .i64 o.v] 37)))
  have c1 : (w.alloc (.cells #[.int .i64 o.th, .int .u8 o.kind, .int .i64 o.at_, .int .i64 o.v] 37)).cell? ⟨b, 18, none⟩ = some (.slice (some ⟨t, 0, none⟩) ts.length ts.length) := H0.out.wcell 18 _ rfl
  have H := hidI h
  clear h hts
  unfold txAgg
  go_enter Try.func12, Try.ntmps12
  by_cases h0 : o.th < 0
  · have hb : decide (o.th < 0) = true := decide_eq_true h0
    clear ho
    go_wp2_with fail
    go_region
    all_goals go_wp2_with fail
    all_goals go_end0
    all_goals rw [HR.out]
    all_goals exact ⟨rfl, ⟨ts, ev, H0.out.drew⟩, below_drewN ((Below.refl _ _).alloc H.out.base_le _) 1⟩
  · have hb : decide (o.th < 0) = false := decide_eq_false h0
    have hb2 : decide ((ts.length : Int) ≤ o.th) = true := decide_eq_true (by omega)
    clear ho
    go_wp2_with fail
    go_region
    all_goals go_wp2_with fail
    all_goals go_end0
    all_goals rw [HR.out]
    all_goals exact ⟨rfl, ⟨ts, ev, H0.out.drew⟩, below_drewN ((Below.refl _ _).alloc H.out.base_le _) 1⟩

set_option maxHeartbeats 4000000 in
theorem do_in (h : TlAt w base b m t tw ts ev) {mm nn i : Nat} (hok : TOk tw mm nn i) (hi : i < 70000) {n : Nat} {x : Th × Value} (hx : ts[n]? = some x) (hn4 : n < 4) (o : Tx) (ho : o.th = n) :
    Calls Try.prog 12 #[.pointer (some ⟨b, 0, none⟩), txAgg o] w (TlDone base b m t (tw.do_ o) w) := by
  have hn : n < ts.length := (List.getElem?_eq_some_iff.1 hx).1
  have HR := hidI (show tw.do_ o = tw.doT n x.1 o from by
    unfold TW.do_
    rw [if_neg (by omega), ho]
    simp only [Int.toNat_natCast, h.th_at hx])
  have hxok := hok.th n x.1 (h.th_at hx)
  rw [← hok.mem] at hxok
  have HXOK := hidI hxok
  have HCK := hidI (show 0 ≤ tw.clock ∧ tw.clock ≤ 70000 from ⟨hok.ck0, by have := hok.ck1; omega⟩)
  have HL := hidI (show tw.evs.length < 70000 from by have := hok.evs; omega)
  have HI := hidI (show i ≤ 70000 from by omega)
  obtain ⟨th, kind, at_, v⟩ := o
  simp only at ho
  subst ho
  have h0 := h.below ((Below.refl _ _).alloc (Nat.le_refl _) (.cells #[.int .i64 (n : Int), .int .u8 kind, .int .i64 at_, .int .i64 v] 37))
  have c1 : (w.alloc (.cells #[.int .i64 (n : Int), .int .u8 kind, .int .i64 at_, .int .i64 v] 37)).cell? ⟨b, 18, none⟩ = some (.slice (some ⟨t, 0, none⟩) ts.length ts.length) := h0.wcell 18 _ rfl
  have c2 : (w.alloc (.cells #[.int .i64 (n : Int), .int .u8 kind, .int .i64 at_, .int .i64 v] 37)).cell? ⟨b, 0, none⟩ = some (.slice (some ⟨m, 0, none⟩) tw.mem.length tw.mem.length) := h0.wcell 0 _ rfl
  have c3 : (w.alloc (.cells #[.int .i64 (n : Int), .int .u8 kind, .int .i64 at_, .int .i64 v] 37)).cell? ⟨t, n * 22, none⟩ = some (.int .u8 x.1.phase) := h0.cell hx 0 _ rfl
  have hb0 : Below base w (w.alloc (.cells #[.int .i64 (n : Int), .int .u8 kind, .int .i64 at_, .int .i64 v] 37)) := (Below.refl _ _).alloc h.base_le _
  have hbox := block_new w (.cells #[.int .i64 (n : Int), .int .u8 kind, .int .i64 at_, .int .i64 v] 37)
  have d0 : (w.alloc (.cells #[.int .i64 (n : Int), .int .u8 kind, .int .i64 at_, .int .i64 v] 37)).cell? ⟨w.heap.size, 0, none⟩ = some (.int .i64 (n : Int)) := cell_of_block (o := 0) hbox rfl
  have d1 : (w.alloc (.cells #[.int .i64 (n : Int), .int .u8 kind, .int .i64 at_, .int .i64 v] 37)).cell? ⟨w.heap.size, 1, none⟩ = some (.int .u8 kind) := cell_of_block (o := 1) hbox rfl
  have d2 : (w.alloc (.cells #[.int .i64 (n : Int), .int .u8 kind, .int .i64 at_, .int .i64 v] 37)).cell? ⟨w.heap.size, 2, none⟩ = some (.int .i64 at_) := cell_of_block (o := 2) hbox rfl
  have d3 : (w.alloc (.cells #[.int .i64 (n : Int), .int .u8 kind, .int .i64 at_, .int .i64 v] 37)).cell? ⟨w.heap.size, 3, none⟩ = some (.int .i64 v) := cell_of_block (o := 3) hbox rfl
  have H := hidI h
  have H0 := hidI h0
  have HX := hidI hx
  have HB0 := hidI hb0
  have HN4 := hidI hn4
  clear h h0 hx hb0 hok hxok hbox hn4 hi
  unfold txAgg
  have hb : decide ((n : Int) < 0) = false := decide_eq_false (by omega)
  have hb2 : decide (ts.length ≤ n) = false := decide_eq_false (by omega)
  go_enter Try.func12, Try.ntmps12
  go_wp2_with fail
  generalize w.alloc (.cells #[.int .i64 (n : Int), .int .u8 kind, .int .i64 at_, .int .i64 v] 37) = w1 at H0 HB0 c1 c2 c3 d0 d1 d2 d3 ⊢
  go_region
  go_wp2_with fail
  go_cut [4, 5] from 20 to 30 (fun vn vp wx => vn = .int .i64 (n : Int) ∧ vp = .int .u8 x.1.phase ∧ ∃ d, wx = w1.drewN d)
  case first =>
    go_quiet (fail)
    go_wp2_with fail
    go_meet
    exact ⟨rfl, rfl, _, World.drewN_drewN w1 1 _⟩
  case rest =>
  obtain ⟨rfl, rfl, d', rfl⟩ := hcut
  go_wp2_with fail
  go_cut [6] from 31 to 43 (fun vt wx => vt = .bool (tw.there at_) ∧ ∃ d, wx = w1.drewN d)
  case first =>
    by_cases h1 : 1 ≤ at_
    · by_cases h2 : at_ < tw.mem.length
      · have e1 : decide (1 ≤ at_) = true := decide_eq_true h1
        have e2 : decide (at_ < (tw.mem.length : Int)) = true := decide_eq_true h2
        have ht := hidI (show tw.there at_ = true from there_iff.2 ⟨h1, h2⟩)
        go_quiet (fail)
        go_wp2_with fail
        go_meet
        rw [ht.out]
        first | exact ⟨rfl, _, World.drewN_drewN w1 d' _⟩ | exact ⟨rfl, _, rfl⟩
      · have e1 : decide (1 ≤ at_) = true := decide_eq_true h1
        have e2 : decide (at_ < (tw.mem.length : Int)) = false := decide_eq_false h2
        have ht := hidI (show tw.there at_ = false from by simp [TW.there, h1]; omega)
        go_quiet (fail)
        go_wp2_with fail
        go_meet
        rw [ht.out]
        first | exact ⟨rfl, _, World.drewN_drewN w1 d' _⟩ | exact ⟨rfl, _, rfl⟩
    · have e1 : decide (1 ≤ at_) = false := decide_eq_false h1
      have ht := hidI (show tw.there at_ = false from by simp [TW.there, h1])
      go_quiet (fail)
      go_wp2_with fail
      go_meet
      rw [ht.out]
      first | exact ⟨rfl, _, World.drewN_drewN w1 d' _⟩ | exact ⟨rfl, _, rfl⟩
  case rest =>
    obtain ⟨rfl, d, rfl⟩ := hcut
    have e1 : (w1.drewN d).cell? ⟨w.heap.size, 1, none⟩ = some (.int .u8 kind) := d1
    have e2 : (w1.drewN d).cell? ⟨w.heap.size, 2, none⟩ = some (.int .i64 at_) := d2
    have e3 : (w1.drewN d).cell? ⟨w.heap.size, 3, none⟩ = some (.int .i64 v) := d3
    have H2 := hidI (H0.out.drewN d)
    have HB2 := hidI (below_drewN HB0.out d)
    clear d0 d1 d2 d3 c1 c2 c3 hb hb2
    generalize w1.drewN d = w2 at H2 HB2 e1 e2 e3 ⊢
    -- CASES (written by mkdo.py)
    rcases (by omega : kind = 1 ∨ kind = 2 ∨ kind = 3 ∨ kind = 4 ∨ kind = 5 ∨ (kind ≠ 1 ∧ kind ≠ 2 ∧ kind ≠ 3 ∧ kind ≠ 4 ∧ kind ≠ 5)) with rfl | rfl | rfl | rfl | rfl | ⟨k1, k2, k3, k4, k5⟩
    · rcases HXOK.out.ph with hp | hp | hp | hp
      · have HPH := hidI hp
        rw [hp]
        clear hp
        have HD := hidI (show tw.doT n x.1 ⟨n, 1, at_, v⟩ = tw.begin n from by unfold TW.doT; simp [HPH.out])
        go_wp2_with fail
        refine (begin_any H2.out HX.out HL.out).mono ?_
        rintro r w3 ⟨rfl, hts, hb⟩
        have HT := hidI hts
        have HB := hidI hb
        clear hts hb
        go_wp2_with fail
        go_end0
        rw [HR.out, HD.out]
        exact ⟨rfl, HT.out, HB2.out.trans HB.out⟩
      · have HPH := hidI hp
        rw [hp]
        clear hp
        have HD := hidI (show tw.doT n x.1 ⟨n, 1, at_, v⟩ = tw from by unfold TW.doT; simp [HPH.out])
        go_wp2_with fail
        go_end0
        rw [HR.out, HD.out]
        exact ⟨rfl, ⟨ts, ev, H2.out⟩, HB2.out⟩
      · have HPH := hidI hp
        rw [hp]
        clear hp
        have HD := hidI (show tw.doT n x.1 ⟨n, 1, at_, v⟩ = tw from by unfold TW.doT; simp [HPH.out])
        go_wp2_with fail
        go_end0
        rw [HR.out, HD.out]
        exact ⟨rfl, ⟨ts, ev, H2.out⟩, HB2.out⟩
      · have HPH := hidI hp
        rw [hp]
        clear hp
        have HD := hidI (show tw.doT n x.1 ⟨n, 1, at_, v⟩ = tw from by unfold TW.doT; simp [HPH.out])
        go_wp2_with fail
        go_end0
        rw [HR.out, HD.out]
        exact ⟨rfl, ⟨ts, ev, H2.out⟩, HB2.out⟩
    · rcases HXOK.out.ph with hp | hp | hp | hp
      · have HPH := hidI hp
        rw [hp]
        clear hp
        have HD := hidI (show tw.doT n x.1 ⟨n, 2, at_, v⟩ = tw from by unfold TW.doT; simp [HPH.out])
        go_wp2_with fail
        go_end0
        rw [HR.out, HD.out]
        exact ⟨rfl, ⟨ts, ev, H2.out⟩, HB2.out⟩
      · have HPH := hidI hp
        rw [hp]
        clear hp
        cases ht : tw.there at_ with
        | true =>
          have HD := hidI (show tw.doT n x.1 ⟨n, 2, at_, v⟩ = tw.read n x.1 at_ from by unfold TW.doT; simp [HPH.out, ht])
          obtain ⟨a, rfl, ha⟩ : ∃ a : Nat, at_ = (a : Int) ∧ a < tw.mem.length := by
            have := there_iff.1 ht
            exact ⟨at_.toNat, by omega, by omega⟩
          have HA := hidI ha
          clear ht ha
          go_wp2_with fail
          refine (read_any H2.out HX.out HXOK.out HL.out a HA.out).mono ?_
          rintro r w3 ⟨rfl, hts, hb⟩
          have HT := hidI hts
          have HB := hidI hb
          clear hts hb
          go_wp2_with fail
          go_end0
          rw [HR.out, HD.out]
          exact ⟨rfl, HT.out, HB2.out.trans HB.out⟩
        | false =>
          have HD := hidI (show tw.doT n x.1 ⟨n, 2, at_, v⟩ = tw from by unfold TW.doT; simp [HPH.out, ht])
          clear ht
          go_wp2_with fail
          go_end0
          rw [HR.out, HD.out]
          exact ⟨rfl, ⟨ts, ev, H2.out⟩, HB2.out⟩
      · have HPH := hidI hp
        rw [hp]
        clear hp
        have HD := hidI (show tw.doT n x.1 ⟨n, 2, at_, v⟩ = tw from by unfold TW.doT; simp [HPH.out])
        go_wp2_with fail
        go_end0
        rw [HR.out, HD.out]
        exact ⟨rfl, ⟨ts, ev, H2.out⟩, HB2.out⟩
      · have HPH := hidI hp
        rw [hp]
        clear hp
        have HD := hidI (show tw.doT n x.1 ⟨n, 2, at_, v⟩ = tw from by unfold TW.doT; simp [HPH.out])
        go_wp2_with fail
        go_end0
        rw [HR.out, HD.out]
        exact ⟨rfl, ⟨ts, ev, H2.out⟩, HB2.out⟩
    · rcases HXOK.out.ph with hp | hp | hp | hp
      · have HPH := hidI hp
        rw [hp]
        clear hp
        have HD := hidI (show tw.doT n x.1 ⟨n, 3, at_, v⟩ = tw from by unfold TW.doT; simp [HPH.out])
        go_wp2_with fail
        go_end0
        rw [HR.out, HD.out]
        exact ⟨rfl, ⟨ts, ev, H2.out⟩, HB2.out⟩
      · have HPH := hidI hp
        rw [hp]
        clear hp
        cases ht : tw.there at_ with
        | true =>
          have HD := hidI (show tw.doT n x.1 ⟨n, 3, at_, v⟩ = tw.write n x.1 at_ v from by unfold TW.doT; simp [HPH.out, ht])
          clear ht
          go_wp2_with fail
          refine (write_any H2.out HX.out HXOK.out HPH.out HL.out at_ v).mono ?_
          rintro r w3 ⟨rfl, hts, hb⟩
          have HT := hidI hts
          have HB := hidI hb
          clear hts hb
          go_wp2_with fail
          go_end0
          rw [HR.out, HD.out]
          exact ⟨rfl, HT.out, HB2.out.trans HB.out⟩
        | false =>
          have HD := hidI (show tw.doT n x.1 ⟨n, 3, at_, v⟩ = tw from by unfold TW.doT; simp [HPH.out, ht])
          clear ht
          go_wp2_with fail
          go_end0
          rw [HR.out, HD.out]
          exact ⟨rfl, ⟨ts, ev, H2.out⟩, HB2.out⟩
      · have HPH := hidI hp
        rw [hp]
        clear hp
        have HD := hidI (show tw.doT n x.1 ⟨n, 3, at_, v⟩ = tw from by unfold TW.doT; simp [HPH.out])
        go_wp2_with fail
        go_end0
        rw [HR.out, HD.out]
        exact ⟨rfl, ⟨ts, ev, H2.out⟩, HB2.out⟩
      · have HPH := hidI hp
        rw [hp]
        clear hp
        have HD := hidI (show tw.doT n x.1 ⟨n, 3, at_, v⟩ = tw from by unfold TW.doT; simp [HPH.out])
        go_wp2_with fail
        go_end0
        rw [HR.out, HD.out]
        exact ⟨rfl, ⟨ts, ev, H2.out⟩, HB2.out⟩
    · rcases HXOK.out.ph with hp | hp | hp | hp
      · have HPH := hidI hp
        rw [hp]
        clear hp
        have HD := hidI (show tw.doT n x.1 ⟨n, 4, at_, v⟩ = tw.step n x.1 from by unfold TW.doT; simp [HPH.out])
        go_wp2_with fail
        refine (step_any H2.out HX.out HN4.out HXOK.out HI.out HL.out HCK.out).mono ?_
        rintro r w3 ⟨rfl, hts, hb⟩
        have HT := hidI hts
        have HB := hidI hb
        clear hts hb
        go_wp2_with fail
        go_end0
        rw [HR.out, HD.out]
        exact ⟨rfl, HT.out, HB2.out.trans HB.out⟩
      · have HPH := hidI hp
        rw [hp]
        clear hp
        have HD := hidI (show tw.doT n x.1 ⟨n, 4, at_, v⟩ = tw.step n x.1 from by unfold TW.doT; simp [HPH.out])
        go_wp2_with fail
        refine (step_any H2.out HX.out HN4.out HXOK.out HI.out HL.out HCK.out).mono ?_
        rintro r w3 ⟨rfl, hts, hb⟩
        have HT := hidI hts
        have HB := hidI hb
        clear hts hb
        go_wp2_with fail
        go_end0
        rw [HR.out, HD.out]
        exact ⟨rfl, HT.out, HB2.out.trans HB.out⟩
      · have HPH := hidI hp
        rw [hp]
        clear hp
        have HD := hidI (show tw.doT n x.1 ⟨n, 4, at_, v⟩ = tw.step n x.1 from by unfold TW.doT; simp [HPH.out])
        go_wp2_with fail
        refine (step_any H2.out HX.out HN4.out HXOK.out HI.out HL.out HCK.out).mono ?_
        rintro r w3 ⟨rfl, hts, hb⟩
        have HT := hidI hts
        have HB := hidI hb
        clear hts hb
        go_wp2_with fail
        go_end0
        rw [HR.out, HD.out]
        exact ⟨rfl, HT.out, HB2.out.trans HB.out⟩
      · have HPH := hidI hp
        rw [hp]
        clear hp
        have HD := hidI (show tw.doT n x.1 ⟨n, 4, at_, v⟩ = tw.step n x.1 from by unfold TW.doT; simp [HPH.out])
        go_wp2_with fail
        refine (step_any H2.out HX.out HN4.out HXOK.out HI.out HL.out HCK.out).mono ?_
        rintro r w3 ⟨rfl, hts, hb⟩
        have HT := hidI hts
        have HB := hidI hb
        clear hts hb
        go_wp2_with fail
        go_end0
        rw [HR.out, HD.out]
        exact ⟨rfl, HT.out, HB2.out.trans HB.out⟩
    · rcases HXOK.out.ph with hp | hp | hp | hp
      · have HPH := hidI hp
        rw [hp]
        clear hp
        have HD := hidI (show tw.doT n x.1 ⟨n, 5, at_, v⟩ = tw from by unfold TW.doT; simp [HPH.out])
        go_wp2_with fail
        go_end0
        rw [HR.out, HD.out]
        exact ⟨rfl, ⟨ts, ev, H2.out⟩, HB2.out⟩
      · have HPH := hidI hp
        rw [hp]
        clear hp
        have HD := hidI (show tw.doT n x.1 ⟨n, 5, at_, v⟩ = tw.abort n x.1 from by unfold TW.doT; simp [HPH.out])
        go_wp2_with fail
        refine (abort_any H2.out HX.out HXOK.out.hd HL.out).mono ?_
        rintro r w3 ⟨rfl, hts, hb⟩
        have HT := hidI hts
        have HB := hidI hb
        clear hts hb
        go_wp2_with fail
        go_end0
        rw [HR.out, HD.out]
        exact ⟨rfl, HT.out, HB2.out.trans HB.out⟩
      · have HPH := hidI hp
        rw [hp]
        clear hp
        have HD := hidI (show tw.doT n x.1 ⟨n, 5, at_, v⟩ = tw.abort n x.1 from by unfold TW.doT; simp [HPH.out])
        go_wp2_with fail
        refine (abort_any H2.out HX.out HXOK.out.hd HL.out).mono ?_
        rintro r w3 ⟨rfl, hts, hb⟩
        have HT := hidI hts
        have HB := hidI hb
        clear hts hb
        go_wp2_with fail
        go_end0
        rw [HR.out, HD.out]
        exact ⟨rfl, HT.out, HB2.out.trans HB.out⟩
      · have HPH := hidI hp
        rw [hp]
        clear hp
        have HD := hidI (show tw.doT n x.1 ⟨n, 5, at_, v⟩ = tw from by unfold TW.doT; simp [HPH.out])
        go_wp2_with fail
        go_end0
        rw [HR.out, HD.out]
        exact ⟨rfl, ⟨ts, ev, H2.out⟩, HB2.out⟩
    · have kb1 : (kind == 1) = false := by simpa using k1
      have kb2 : (kind == 2) = false := by simpa using k2
      have kb3 : (kind == 3) = false := by simpa using k3
      have kb4 : (kind == 4) = false := by simpa using k4
      have kb5 : (kind == 5) = false := by simpa using k5
      rcases HXOK.out.ph with hp | hp | hp | hp
      · have HPH := hidI hp
        rw [hp]
        clear hp
        have HD := hidI (show tw.doT n x.1 ⟨n, kind, at_, v⟩ = tw from by unfold TW.doT; simp [HPH.out, k1, k2, k3, k4, k5])
        go_wp2_with fail
        go_end0
        rw [HR.out, HD.out]
        exact ⟨rfl, ⟨ts, ev, H2.out⟩, HB2.out⟩
      · have HPH := hidI hp
        rw [hp]
        clear hp
        have HD := hidI (show tw.doT n x.1 ⟨n, kind, at_, v⟩ = tw from by unfold TW.doT; simp [HPH.out, k1, k2, k3, k4, k5])
        go_wp2_with fail
        go_end0
        rw [HR.out, HD.out]
        exact ⟨rfl, ⟨ts, ev, H2.out⟩, HB2.out⟩
      · have HPH := hidI hp
        rw [hp]
        clear hp
        have HD := hidI (show tw.doT n x.1 ⟨n, kind, at_, v⟩ = tw from by unfold TW.doT; simp [HPH.out, k1, k2, k3, k4, k5])
        go_wp2_with fail
        go_end0
        rw [HR.out, HD.out]
        exact ⟨rfl, ⟨ts, ev, H2.out⟩, HB2.out⟩
      · have HPH := hidI hp
        rw [hp]
        clear hp
        have HD := hidI (show tw.doT n x.1 ⟨n, kind, at_, v⟩ = tw from by unfold TW.doT; simp [HPH.out, k1, k2, k3, k4, k5])
        go_wp2_with fail
        go_end0
        rw [HR.out, HD.out]
        exact ⟨rfl, ⟨ts, ev, H2.out⟩, HB2.out⟩

end Go.Proofs.Ytlphjkgjcfhihaa

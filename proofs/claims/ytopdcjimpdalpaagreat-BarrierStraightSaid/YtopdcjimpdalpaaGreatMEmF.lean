/- Put together by merge.py out of XEmF.lean.tpl, XEmG.lean.tpl, XEmH.lean.tpl, XEmI.lean.tpl, XEmJ.lean.tpl, XEmK.lean.tpl. -/
import Derived.Test.YtopdcjimpdalpaaGreatMEmA
import Derived.Test.YtopdcjimpdalpaaGreatPlanA
namespace Go.Proofs.YtopdcjimpdalpaaGreat
open Go.RowKit
set_option linter.unusedVariables false
set_option linter.unusedSimpArgs false

section
open Go.RowKit Go.Maps

variable {w w' w1 w2 : World} {own own1 own2 : Nat → Prop} {bc k br : Nat} {tv : Value} {t : TxC}

def Cd.locks2 (t : TxC) (rel : Nat) (c0 : Cd) : Cd :=
  let c1 := c0.lock t
  let c2 := c1.load 3 5 0
  let c3 := c2.move 4 3
  let c4 := c3.set 2 1
  let c5 := c4.calc 6 4 2
  let c6 := c5.unless t 4 rel
  let c7 := c6.move 4 3
  let c8 := c7.set 2 (2 * t.th + 1)
  let c9 := c8.put ⟨8, 0, 5, 4, 2, 0⟩
  let c10 := c9.calc 2 4 3
  let c11 := c10.unless t 4 rel
  let c12 := c11.old t
  let c13 := c12.store 5 0 3
  let c14 := c13.set 4 1
  let c15 := c14.calc 9 4 6
  let c16 := c15.get t 3 6
  let c17 := c16.calc 7 3 4
  let c18 := c17.sto t 6 3
  c18
set_option maxRecDepth 100000 in
set_option maxHeartbeats 4000000 in
theorem txlocks2_any {c0 : Cd} {rel : Nat} {ba : Nat} {bd : Nat} (h : TxAt w own br bc tv t c0 k) (ok : TxOk t) (hlrel : rel < c0.labs.length) (hka : Keep w own ba (.cells #[.pointer (some ⟨br, 0, none⟩)] 166 (0, 0))) (hkd : Keep w own bd (.cells #[.int .i64 (rel : Int)] 169 (0, 0))) (hk : k ≤ 1099510000000) :
    Calls Tryz.prog 163 #[.pointer (some ⟨ba, 0, none⟩), .pointer (some ⟨bd, 0, none⟩)] w (EmT own w br bc tv t c0 (c0.locks2 t rel) (k + 6)) := by
  have HT0 := hidI h
  have OK := hidI ok
  have HK := hidI hk
  have HU0 := hidI (Turn.refl own w)
  have HL0 := hidI (Nat.le_refl c0.labs.length)
  have HVrel := hidI hlrel
  have HKa := hidI hka
  have HKd := hidI hkd
  have x0 := HT0.out.x0
  have a0 := cell_of_block (o := 0) HKa.out.blk rfl
  have d0 := cell_of_block (o := 0) HKd.out.blk rfl
  clear h ok hk hlrel hka hkd
  go_enter Tryz.func163, Tryz.ntmps163
  go_wp2_with fail
  refine (txlock_any HT0.out OK.out  (by have := HK.out; omega)).mono ?_
  rintro e w1 ⟨rfl, own1, r1, r2, r3⟩
  generalize hec : c0.lock t = c1 at r1 r3
  have HT1 := hidI (r1)
  have HU1 := hidI (HU0.out.trans r2)
  have HL1 := hidI (Nat.le_trans HL0.out r3)
  replace HVrel := hidI (Nat.lt_of_lt_of_le HVrel.out r3)
  replace HKa := hidI (HKa.out.turn r2)
  replace HKd := hidI (HKd.out.turn r2)
  have HC1 := hidI hec
  clear r1 r2 r3 hec x0 a0 d0
  have x0 := HT1.out.x0
  have a0 := cell_of_block (o := 0) HKa.out.blk rfl
  have d0 := cell_of_block (o := 0) HKd.out.blk rfl
  go_wp2_with fail
  refine (emload_any HT1.out.code 3 5 0).mono ?_
  rintro e w2 ⟨rfl, own2, r1, r2, r3⟩
  generalize hec : c1.load 3 5 0 = c2 at r1 r3
  have HT2 := hidI (HT1.out.next r1 r2)
  have HU2 := hidI (HU1.out.trans r2)
  have HL2 := hidI (Nat.le_trans HL1.out r3)
  replace HVrel := hidI (Nat.lt_of_lt_of_le HVrel.out r3)
  replace HKa := hidI (HKa.out.turn r2)
  replace HKd := hidI (HKd.out.turn r2)
  have HC2 := hidI hec
  clear r1 r2 r3 hec x0 a0 d0
  have x0 := HT2.out.x0
  have a0 := cell_of_block (o := 0) HKa.out.blk rfl
  have d0 := cell_of_block (o := 0) HKd.out.blk rfl
  go_wp2_with fail
  refine (emmove_any HT2.out.code 4 3).mono ?_
  rintro e w3 ⟨rfl, own3, r1, r2, r3⟩
  generalize hec : c2.move 4 3 = c3 at r1 r3
  have HT3 := hidI (HT2.out.next r1 r2)
  have HU3 := hidI (HU2.out.trans r2)
  have HL3 := hidI (Nat.le_trans HL2.out r3)
  replace HVrel := hidI (Nat.lt_of_lt_of_le HVrel.out r3)
  replace HKa := hidI (HKa.out.turn r2)
  replace HKd := hidI (HKd.out.turn r2)
  have HC3 := hidI hec
  clear r1 r2 r3 hec x0 a0 d0
  have x0 := HT3.out.x0
  have a0 := cell_of_block (o := 0) HKa.out.blk rfl
  have d0 := cell_of_block (o := 0) HKd.out.blk rfl
  go_wp2_with fail
  refine (emset_any HT3.out.code 2 1).mono ?_
  rintro e w4 ⟨rfl, own4, r1, r2, r3⟩
  generalize hec : c3.set 2 1 = c4 at r1 r3
  have HT4 := hidI (HT3.out.next r1 r2)
  have HU4 := hidI (HU3.out.trans r2)
  have HL4 := hidI (Nat.le_trans HL3.out r3)
  replace HVrel := hidI (Nat.lt_of_lt_of_le HVrel.out r3)
  replace HKa := hidI (HKa.out.turn r2)
  replace HKd := hidI (HKd.out.turn r2)
  have HC4 := hidI hec
  clear r1 r2 r3 hec x0 a0 d0
  have x0 := HT4.out.x0
  have a0 := cell_of_block (o := 0) HKa.out.blk rfl
  have d0 := cell_of_block (o := 0) HKd.out.blk rfl
  go_wp2_with fail
  refine (emcalc_any HT4.out.code 6 4 2).mono ?_
  rintro e w5 ⟨rfl, own5, r1, r2, r3⟩
  generalize hec : c4.calc 6 4 2 = c5 at r1 r3
  have HT5 := hidI (HT4.out.next r1 r2)
  have HU5 := hidI (HU4.out.trans r2)
  have HL5 := hidI (Nat.le_trans HL4.out r3)
  replace HVrel := hidI (Nat.lt_of_lt_of_le HVrel.out r3)
  replace HKa := hidI (HKa.out.turn r2)
  replace HKd := hidI (HKd.out.turn r2)
  have HC5 := hidI hec
  clear r1 r2 r3 hec x0 a0 d0
  have x0 := HT5.out.x0
  have a0 := cell_of_block (o := 0) HKa.out.blk rfl
  have d0 := cell_of_block (o := 0) HKd.out.blk rfl
  go_wp2_with fail
  refine (txunless_any HT5.out OK.out 4 HVrel.out (by have := HK.out; omega)).mono ?_
  rintro e w6 ⟨rfl, own6, r1, r2, r3⟩
  generalize hec : c5.unless t 4 rel = c6 at r1 r3
  have HT6 := hidI (r1)
  have HU6 := hidI (HU5.out.trans r2)
  have HL6 := hidI (Nat.le_trans HL5.out r3)
  replace HVrel := hidI (Nat.lt_of_lt_of_le HVrel.out r3)
  replace HKa := hidI (HKa.out.turn r2)
  replace HKd := hidI (HKd.out.turn r2)
  have HC6 := hidI hec
  clear r1 r2 r3 hec x0 a0 d0
  have x0 := HT6.out.x0
  have a0 := cell_of_block (o := 0) HKa.out.blk rfl
  have d0 := cell_of_block (o := 0) HKd.out.blk rfl
  go_wp2_with fail
  refine (emmove_any HT6.out.code 4 3).mono ?_
  rintro e w7 ⟨rfl, own7, r1, r2, r3⟩
  generalize hec : c6.move 4 3 = c7 at r1 r3
  have HT7 := hidI (HT6.out.next r1 r2)
  have HU7 := hidI (HU6.out.trans r2)
  have HL7 := hidI (Nat.le_trans HL6.out r3)
  replace HVrel := hidI (Nat.lt_of_lt_of_le HVrel.out r3)
  replace HKa := hidI (HKa.out.turn r2)
  replace HKd := hidI (HKd.out.turn r2)
  have HC7 := hidI hec
  clear r1 r2 r3 hec x0 a0 d0
  have x0 := HT7.out.x0
  have a0 := cell_of_block (o := 0) HKa.out.blk rfl
  have d0 := cell_of_block (o := 0) HKd.out.blk rfl
  go_wp2_with fail
  go_region_held3 (fun w' => w'.cell? ⟨br, 0, none⟩ = some (.pointer (some ⟨bc, 0, none⟩)) ∧ w'.cell? ⟨ba, 0, none⟩ = some (.pointer (some ⟨br, 0, none⟩)) ∧ w'.cell? ⟨bd, 0, none⟩ = some (.int .i64 (rel : Int))) (refine ⟨?_, ?_, ?_⟩ <;> first | assumption | simp only [World.cell?_drew, *]) (first
    | (go_at_call 83; refine (emset_any HT7.out.drew.code 2 (2 * t.th + 1)).mono ?_; rintro e w8 ⟨rfl, own8, r1, r2, r3⟩; generalize hec : c7.set 2 (2 * t.th + 1) = c8 at r1 r3; have HT8 := hidI (HT7.out.drew.next r1 r2); have HU8 := hidI (HU7.out.drew.trans r2); have HL8 := hidI (Nat.le_trans HL7.out r3); replace HVrel := hidI (Nat.lt_of_lt_of_le HVrel.out r3); replace HKa := hidI (HKa.out.drew.turn r2); replace HKd := hidI (HKd.out.drew.turn r2); have HC8 := hidI hec; clear r1 r2 r3 hec x0 a0 d0; have x0 := HT8.out.x0; have a0 := cell_of_block (o := 0) HKa.out.blk rfl; have d0 := cell_of_block (o := 0) HKd.out.blk rfl)
    | (go_at_call 164; refine (txowner_any HT7.out.drew OK.out).mono ?_; rintro e wk ⟨rfl, rfl⟩)
    )
  go_wp2_with fail
  refine (put_any HT8.out.code ⟨8, 0, 5, 4, 2, 0⟩).mono ?_
  rintro e w9 ⟨rfl, own9, r1, r2, r3⟩
  generalize hec : c8.put ⟨8, 0, 5, 4, 2, 0⟩ = c9 at r1 r3
  have HT9 := hidI (HT8.out.next r1 r2)
  have HU9 := hidI (HU8.out.trans r2)
  have HL9 := hidI (Nat.le_trans HL8.out r3)
  replace HVrel := hidI (Nat.lt_of_lt_of_le HVrel.out r3)
  replace HKa := hidI (HKa.out.turn r2)
  replace HKd := hidI (HKd.out.turn r2)
  have HC9 := hidI hec
  clear r1 r2 r3 hec x0 a0 d0
  have x0 := HT9.out.x0
  have a0 := cell_of_block (o := 0) HKa.out.blk rfl
  have d0 := cell_of_block (o := 0) HKd.out.blk rfl
  go_wp2_with fail
  refine (emcalc_any HT9.out.code 2 4 3).mono ?_
  rintro e w10 ⟨rfl, own10, r1, r2, r3⟩
  generalize hec : c9.calc 2 4 3 = c10 at r1 r3
  have HT10 := hidI (HT9.out.next r1 r2)
  have HU10 := hidI (HU9.out.trans r2)
  have HL10 := hidI (Nat.le_trans HL9.out r3)
  replace HVrel := hidI (Nat.lt_of_lt_of_le HVrel.out r3)
  replace HKa := hidI (HKa.out.turn r2)
  replace HKd := hidI (HKd.out.turn r2)
  have HC10 := hidI hec
  clear r1 r2 r3 hec x0 a0 d0
  have x0 := HT10.out.x0
  have a0 := cell_of_block (o := 0) HKa.out.blk rfl
  have d0 := cell_of_block (o := 0) HKd.out.blk rfl
  go_wp2_with fail
  refine (txunless_any HT10.out OK.out 4 HVrel.out (by have := HK.out; omega)).mono ?_
  rintro e w11 ⟨rfl, own11, r1, r2, r3⟩
  generalize hec : c10.unless t 4 rel = c11 at r1 r3
  have HT11 := hidI (r1)
  have HU11 := hidI (HU10.out.trans r2)
  have HL11 := hidI (Nat.le_trans HL10.out r3)
  replace HVrel := hidI (Nat.lt_of_lt_of_le HVrel.out r3)
  replace HKa := hidI (HKa.out.turn r2)
  replace HKd := hidI (HKd.out.turn r2)
  have HC11 := hidI hec
  clear r1 r2 r3 hec x0 a0 d0
  have x0 := HT11.out.x0
  have a0 := cell_of_block (o := 0) HKa.out.blk rfl
  have d0 := cell_of_block (o := 0) HKd.out.blk rfl
  go_wp2_with fail
  refine (txold_any HT11.out OK.out  (by have := HK.out; omega)).mono ?_
  rintro e w12 ⟨rfl, own12, r1, r2, r3⟩
  generalize hec : c11.old t = c12 at r1 r3
  have HT12 := hidI (r1)
  have HU12 := hidI (HU11.out.trans r2)
  have HL12 := hidI (Nat.le_trans HL11.out r3)
  replace HVrel := hidI (Nat.lt_of_lt_of_le HVrel.out r3)
  replace HKa := hidI (HKa.out.turn r2)
  replace HKd := hidI (HKd.out.turn r2)
  have HC12 := hidI hec
  clear r1 r2 r3 hec x0 a0 d0
  have x0 := HT12.out.x0
  have a0 := cell_of_block (o := 0) HKa.out.blk rfl
  have d0 := cell_of_block (o := 0) HKd.out.blk rfl
  go_wp2_with fail
  refine (emstore_any HT12.out.code 5 0 3).mono ?_
  rintro e w13 ⟨rfl, own13, r1, r2, r3⟩
  generalize hec : c12.store 5 0 3 = c13 at r1 r3
  have HT13 := hidI (HT12.out.next r1 r2)
  have HU13 := hidI (HU12.out.trans r2)
  have HL13 := hidI (Nat.le_trans HL12.out r3)
  replace HVrel := hidI (Nat.lt_of_lt_of_le HVrel.out r3)
  replace HKa := hidI (HKa.out.turn r2)
  replace HKd := hidI (HKd.out.turn r2)
  have HC13 := hidI hec
  clear r1 r2 r3 hec x0 a0 d0
  have x0 := HT13.out.x0
  have a0 := cell_of_block (o := 0) HKa.out.blk rfl
  have d0 := cell_of_block (o := 0) HKd.out.blk rfl
  go_wp2_with fail
  refine (emset_any HT13.out.code 4 1).mono ?_
  rintro e w14 ⟨rfl, own14, r1, r2, r3⟩
  generalize hec : c13.set 4 1 = c14 at r1 r3
  have HT14 := hidI (HT13.out.next r1 r2)
  have HU14 := hidI (HU13.out.trans r2)
  have HL14 := hidI (Nat.le_trans HL13.out r3)
  replace HVrel := hidI (Nat.lt_of_lt_of_le HVrel.out r3)
  replace HKa := hidI (HKa.out.turn r2)
  replace HKd := hidI (HKd.out.turn r2)
  have HC14 := hidI hec
  clear r1 r2 r3 hec x0 a0 d0
  have x0 := HT14.out.x0
  have a0 := cell_of_block (o := 0) HKa.out.blk rfl
  have d0 := cell_of_block (o := 0) HKd.out.blk rfl
  go_wp2_with fail
  refine (emcalc_any HT14.out.code 9 4 6).mono ?_
  rintro e w15 ⟨rfl, own15, r1, r2, r3⟩
  generalize hec : c14.calc 9 4 6 = c15 at r1 r3
  have HT15 := hidI (HT14.out.next r1 r2)
  have HU15 := hidI (HU14.out.trans r2)
  have HL15 := hidI (Nat.le_trans HL14.out r3)
  replace HVrel := hidI (Nat.lt_of_lt_of_le HVrel.out r3)
  replace HKa := hidI (HKa.out.turn r2)
  replace HKd := hidI (HKd.out.turn r2)
  have HC15 := hidI hec
  clear r1 r2 r3 hec x0 a0 d0
  have x0 := HT15.out.x0
  have a0 := cell_of_block (o := 0) HKa.out.blk rfl
  have d0 := cell_of_block (o := 0) HKd.out.blk rfl
  go_wp2_with fail
  refine (txget_any HT15.out OK.out 3 6 (by decide)).mono ?_
  rintro e w16 ⟨rfl, own16, r1, r2, r3⟩
  generalize hec : c15.get t 3 6 = c16 at r1 r3
  have HT16 := hidI (r1)
  have HU16 := hidI (HU15.out.trans r2)
  have HL16 := hidI (Nat.le_trans HL15.out r3)
  replace HVrel := hidI (Nat.lt_of_lt_of_le HVrel.out r3)
  replace HKa := hidI (HKa.out.turn r2)
  replace HKd := hidI (HKd.out.turn r2)
  have HC16 := hidI hec
  clear r1 r2 r3 hec x0 a0 d0
  have x0 := HT16.out.x0
  have a0 := cell_of_block (o := 0) HKa.out.blk rfl
  have d0 := cell_of_block (o := 0) HKd.out.blk rfl
  go_wp2_with fail
  refine (emcalc_any HT16.out.code 7 3 4).mono ?_
  rintro e w17 ⟨rfl, own17, r1, r2, r3⟩
  generalize hec : c16.calc 7 3 4 = c17 at r1 r3
  have HT17 := hidI (HT16.out.next r1 r2)
  have HU17 := hidI (HU16.out.trans r2)
  have HL17 := hidI (Nat.le_trans HL16.out r3)
  replace HVrel := hidI (Nat.lt_of_lt_of_le HVrel.out r3)
  replace HKa := hidI (HKa.out.turn r2)
  replace HKd := hidI (HKd.out.turn r2)
  have HC17 := hidI hec
  clear r1 r2 r3 hec x0 a0 d0
  have x0 := HT17.out.x0
  have a0 := cell_of_block (o := 0) HKa.out.blk rfl
  have d0 := cell_of_block (o := 0) HKd.out.blk rfl
  go_wp2_with fail
  refine (txput_any HT17.out OK.out 6 3 (by decide)).mono ?_
  rintro e w18 ⟨rfl, own18, r1, r2, r3⟩
  generalize hec : c17.sto t 6 3 = c18 at r1 r3
  have HT18 := hidI (r1)
  have HU18 := hidI (HU17.out.trans r2)
  have HL18 := hidI (Nat.le_trans HL17.out r3)
  replace HVrel := hidI (Nat.lt_of_lt_of_le HVrel.out r3)
  replace HKa := hidI (HKa.out.turn r2)
  replace HKd := hidI (HKd.out.turn r2)
  have HC18 := hidI hec
  clear r1 r2 r3 hec x0 a0 d0
  have x0 := HT18.out.x0
  have a0 := cell_of_block (o := 0) HKa.out.blk rfl
  have d0 := cell_of_block (o := 0) HKd.out.blk rfl
  go_wp2_with fail
  go_end0
  have q1 := HC1.out
  have q2 := HC2.out
  have q3 := HC3.out
  have q4 := HC4.out
  have q5 := HC5.out
  have q6 := HC6.out
  have q7 := HC7.out
  have q8 := HC8.out
  have q9 := HC9.out
  have q10 := HC10.out
  have q11 := HC11.out
  have q12 := HC12.out
  have q13 := HC13.out
  have q14 := HC14.out
  have q15 := HC15.out
  have q16 := HC16.out
  have q17 := HC17.out
  have q18 := HC18.out
  subst q1 q2 q3 q4 q5 q6 q7 q8 q9 q10 q11 q12 q13 q14 q15 q16 q17 q18
  exact ⟨rfl, own18, HT18.out, HU18.out, HL18.out⟩

def Cd.valid1 (t : TxC) (rel : Nat) (c0 : Cd) : Cd :=
  let free := c0.labs.length
  let c1 := c0.label
  let c2 := c1.lock t
  let c3 := c2.load 2 5 0
  let c4 := c3.move 4 2
  let c5 := c4.with_ 6 4 1 3
  let c6 := c5.zero 4 free
  let c7 := c6.with_ 2 2 (2 * t.th + 1) 3
  let c8 := c7.unless t 2 rel
  let c9 := c8.old t
  let c10 := c9.load 2 5 0
  let c11 := c10.here free
  let c12 := c11.with_ 10 2 1 3
  let c13 := c12.get t 4 0
  let c14 := c13.calc 13 4 2
  let c15 := c14.unless t 4 rel
  c15
set_option maxRecDepth 100000 in
set_option maxHeartbeats 4000000 in
theorem txvalid1_any {c0 : Cd} {rel : Nat} {ba : Nat} {bd : Nat} (h : TxAt w own br bc tv t c0 k) (ok : TxOk t) (hlrel : rel < c0.labs.length) (hka : Keep w own ba (.cells #[.pointer (some ⟨br, 0, none⟩)] 166 (0, 0))) (hkd : Keep w own bd (.cells #[.int .i64 (rel : Int)] 169 (0, 0))) (hk : k ≤ 1099510000000) :
    Calls Tryz.prog 165 #[.pointer (some ⟨ba, 0, none⟩), .pointer (some ⟨bd, 0, none⟩)] w (EmT own w br bc tv t c0 (c0.valid1 t rel) (k + 8)) := by
  have HT0 := hidI h
  have OK := hidI ok
  have HK := hidI hk
  have HU0 := hidI (Turn.refl own w)
  have HL0 := hidI (Nat.le_refl c0.labs.length)
  have HVrel := hidI hlrel
  have HKa := hidI hka
  have HKd := hidI hkd
  have x0 := HT0.out.x0
  have a0 := cell_of_block (o := 0) HKa.out.blk rfl
  have d0 := cell_of_block (o := 0) HKd.out.blk rfl
  clear h ok hk hlrel hka hkd
  go_enter Tryz.func165, Tryz.ntmps165
  go_wp2_with fail
  refine (label_any HT0.out.code (by have := HK.out; omega)).mono ?_
  rintro e w1 ⟨rfl, own1, r1, r2, r3⟩
  have r4 : c0.labs.length < (c0.label).labs.length := (by simp [Cd.label])
  generalize hec : c0.label = c1 at r1 r3 r4
  obtain ⟨free, hf⟩ : ∃ x, x = c0.labs.length := ⟨_, rfl⟩
  rw [← hf] at r4 ⊢
  have HT1 := hidI (HT0.out.next r1 r2)
  have HU1 := hidI (HU0.out.trans r2)
  have HL1 := hidI (Nat.le_trans HL0.out r3)
  replace HVrel := hidI (Nat.lt_of_lt_of_le HVrel.out r3)
  replace HKa := hidI (HKa.out.turn r2)
  replace HKd := hidI (HKd.out.turn r2)
  have HVfree := hidI r4
  have HFfree := hidI hf
  have HC1 := hidI hec
  clear r1 r2 r3 hec r4 hf x0 a0 d0
  have x0 := HT1.out.x0
  have a0 := cell_of_block (o := 0) HKa.out.blk rfl
  have d0 := cell_of_block (o := 0) HKd.out.blk rfl
  go_wp2_with fail
  refine (txlock_any HT1.out OK.out  (by have := HK.out; omega)).mono ?_
  rintro e w2 ⟨rfl, own2, r1, r2, r3⟩
  generalize hec : c1.lock t = c2 at r1 r3
  have HT2 := hidI (r1)
  have HU2 := hidI (HU1.out.trans r2)
  have HL2 := hidI (Nat.le_trans HL1.out r3)
  replace HVrel := hidI (Nat.lt_of_lt_of_le HVrel.out r3)
  replace HVfree := hidI (Nat.lt_of_lt_of_le HVfree.out r3)
  replace HKa := hidI (HKa.out.turn r2)
  replace HKd := hidI (HKd.out.turn r2)
  have HC2 := hidI hec
  clear r1 r2 r3 hec x0 a0 d0
  have x0 := HT2.out.x0
  have a0 := cell_of_block (o := 0) HKa.out.blk rfl
  have d0 := cell_of_block (o := 0) HKd.out.blk rfl
  go_wp2_with fail
  refine (emload_any HT2.out.code 2 5 0).mono ?_
  rintro e w3 ⟨rfl, own3, r1, r2, r3⟩
  generalize hec : c2.load 2 5 0 = c3 at r1 r3
  have HT3 := hidI (HT2.out.next r1 r2)
  have HU3 := hidI (HU2.out.trans r2)
  have HL3 := hidI (Nat.le_trans HL2.out r3)
  replace HVrel := hidI (Nat.lt_of_lt_of_le HVrel.out r3)
  replace HVfree := hidI (Nat.lt_of_lt_of_le HVfree.out r3)
  replace HKa := hidI (HKa.out.turn r2)
  replace HKd := hidI (HKd.out.turn r2)
  have HC3 := hidI hec
  clear r1 r2 r3 hec x0 a0 d0
  have x0 := HT3.out.x0
  have a0 := cell_of_block (o := 0) HKa.out.blk rfl
  have d0 := cell_of_block (o := 0) HKd.out.blk rfl
  go_wp2_with fail
  refine (emmove_any HT3.out.code 4 2).mono ?_
  rintro e w4 ⟨rfl, own4, r1, r2, r3⟩
  generalize hec : c3.move 4 2 = c4 at r1 r3
  have HT4 := hidI (HT3.out.next r1 r2)
  have HU4 := hidI (HU3.out.trans r2)
  have HL4 := hidI (Nat.le_trans HL3.out r3)
  replace HVrel := hidI (Nat.lt_of_lt_of_le HVrel.out r3)
  replace HVfree := hidI (Nat.lt_of_lt_of_le HVfree.out r3)
  replace HKa := hidI (HKa.out.turn r2)
  replace HKd := hidI (HKd.out.turn r2)
  have HC4 := hidI hec
  clear r1 r2 r3 hec x0 a0 d0
  have x0 := HT4.out.x0
  have a0 := cell_of_block (o := 0) HKa.out.blk rfl
  have d0 := cell_of_block (o := 0) HKd.out.blk rfl
  go_wp2_with fail
  refine (emwith_any HT4.out.code 6 4 1 3).mono ?_
  rintro e w5 ⟨rfl, own5, r1, r2, r3⟩
  generalize hec : c4.with_ 6 4 1 3 = c5 at r1 r3
  have HT5 := hidI (HT4.out.next r1 r2)
  have HU5 := hidI (HU4.out.trans r2)
  have HL5 := hidI (Nat.le_trans HL4.out r3)
  replace HVrel := hidI (Nat.lt_of_lt_of_le HVrel.out r3)
  replace HVfree := hidI (Nat.lt_of_lt_of_le HVfree.out r3)
  replace HKa := hidI (HKa.out.turn r2)
  replace HKd := hidI (HKd.out.turn r2)
  have HC5 := hidI hec
  clear r1 r2 r3 hec x0 a0 d0
  have x0 := HT5.out.x0
  have a0 := cell_of_block (o := 0) HKa.out.blk rfl
  have d0 := cell_of_block (o := 0) HKd.out.blk rfl
  go_wp2_with fail
  refine (zero_any HT5.out.code 4 HVfree.out (by have := HK.out; omega)).mono ?_
  rintro e w6 ⟨rfl, own6, r1, r2, r3⟩
  generalize hec : c5.zero 4 free = c6 at r1 r3
  have HT6 := hidI (HT5.out.next r1 r2)
  have HU6 := hidI (HU5.out.trans r2)
  have HL6 := hidI (Nat.le_trans HL5.out r3)
  replace HVrel := hidI (Nat.lt_of_lt_of_le HVrel.out r3)
  replace HVfree := hidI (Nat.lt_of_lt_of_le HVfree.out r3)
  replace HKa := hidI (HKa.out.turn r2)
  replace HKd := hidI (HKd.out.turn r2)
  have HC6 := hidI hec
  clear r1 r2 r3 hec x0 a0 d0
  have x0 := HT6.out.x0
  have a0 := cell_of_block (o := 0) HKa.out.blk rfl
  have d0 := cell_of_block (o := 0) HKd.out.blk rfl
  go_wp2_with fail
  go_region_held3 (fun w' => w'.cell? ⟨br, 0, none⟩ = some (.pointer (some ⟨bc, 0, none⟩)) ∧ w'.cell? ⟨ba, 0, none⟩ = some (.pointer (some ⟨br, 0, none⟩)) ∧ w'.cell? ⟨bd, 0, none⟩ = some (.int .i64 (rel : Int))) (refine ⟨?_, ?_, ?_⟩ <;> first | assumption | simp only [World.cell?_drew, *]) (first
    | (go_at_call 121; refine (emwith_any HT6.out.drew.code 2 2 (2 * t.th + 1) 3).mono ?_; rintro e w7 ⟨rfl, own7, r1, r2, r3⟩; generalize hec : c6.with_ 2 2 (2 * t.th + 1) 3 = c7 at r1 r3; have HT7 := hidI (HT6.out.drew.next r1 r2); have HU7 := hidI (HU6.out.drew.trans r2); have HL7 := hidI (Nat.le_trans HL6.out r3); replace HVrel := hidI (Nat.lt_of_lt_of_le HVrel.out r3); replace HVfree := hidI (Nat.lt_of_lt_of_le HVfree.out r3); replace HKa := hidI (HKa.out.drew.turn r2); replace HKd := hidI (HKd.out.drew.turn r2); have HC7 := hidI hec; clear r1 r2 r3 hec x0 a0 d0; have x0 := HT7.out.x0; have a0 := cell_of_block (o := 0) HKa.out.blk rfl; have d0 := cell_of_block (o := 0) HKd.out.blk rfl)
    | (go_at_call 164; refine (txowner_any HT6.out.drew OK.out).mono ?_; rintro e wk ⟨rfl, rfl⟩)
    )
  go_wp2_with fail
  refine (txunless_any HT7.out OK.out 2 HVrel.out (by have := HK.out; omega)).mono ?_
  rintro e w8 ⟨rfl, own8, r1, r2, r3⟩
  generalize hec : c7.unless t 2 rel = c8 at r1 r3
  have HT8 := hidI (r1)
  have HU8 := hidI (HU7.out.trans r2)
  have HL8 := hidI (Nat.le_trans HL7.out r3)
  replace HVrel := hidI (Nat.lt_of_lt_of_le HVrel.out r3)
  replace HVfree := hidI (Nat.lt_of_lt_of_le HVfree.out r3)
  replace HKa := hidI (HKa.out.turn r2)
  replace HKd := hidI (HKd.out.turn r2)
  have HC8 := hidI hec
  clear r1 r2 r3 hec x0 a0 d0
  have x0 := HT8.out.x0
  have a0 := cell_of_block (o := 0) HKa.out.blk rfl
  have d0 := cell_of_block (o := 0) HKd.out.blk rfl
  go_wp2_with fail
  refine (txold_any HT8.out OK.out  (by have := HK.out; omega)).mono ?_
  rintro e w9 ⟨rfl, own9, r1, r2, r3⟩
  generalize hec : c8.old t = c9 at r1 r3
  have HT9 := hidI (r1)
  have HU9 := hidI (HU8.out.trans r2)
  have HL9 := hidI (Nat.le_trans HL8.out r3)
  replace HVrel := hidI (Nat.lt_of_lt_of_le HVrel.out r3)
  replace HVfree := hidI (Nat.lt_of_lt_of_le HVfree.out r3)
  replace HKa := hidI (HKa.out.turn r2)
  replace HKd := hidI (HKd.out.turn r2)
  have HC9 := hidI hec
  clear r1 r2 r3 hec x0 a0 d0
  have x0 := HT9.out.x0
  have a0 := cell_of_block (o := 0) HKa.out.blk rfl
  have d0 := cell_of_block (o := 0) HKd.out.blk rfl
  go_wp2_with fail
  refine (emload_any HT9.out.code 2 5 0).mono ?_
  rintro e w10 ⟨rfl, own10, r1, r2, r3⟩
  generalize hec : c9.load 2 5 0 = c10 at r1 r3
  have HT10 := hidI (HT9.out.next r1 r2)
  have HU10 := hidI (HU9.out.trans r2)
  have HL10 := hidI (Nat.le_trans HL9.out r3)
  replace HVrel := hidI (Nat.lt_of_lt_of_le HVrel.out r3)
  replace HVfree := hidI (Nat.lt_of_lt_of_le HVfree.out r3)
  replace HKa := hidI (HKa.out.turn r2)
  replace HKd := hidI (HKd.out.turn r2)
  have HC10 := hidI hec
  clear r1 r2 r3 hec x0 a0 d0
  have x0 := HT10.out.x0
  have a0 := cell_of_block (o := 0) HKa.out.blk rfl
  have d0 := cell_of_block (o := 0) HKd.out.blk rfl
  go_wp2_with fail
  refine (here_any HT10.out.code HVfree.out).mono ?_
  rintro e w11 ⟨rfl, own11, r1, r2, r3⟩
  generalize hec : c10.here free = c11 at r1 r3
  have HT11 := hidI (HT10.out.next r1 r2)
  have HU11 := hidI (HU10.out.trans r2)
  have HL11 := hidI (Nat.le_trans HL10.out r3)
  replace HVrel := hidI (Nat.lt_of_lt_of_le HVrel.out r3)
  replace HVfree := hidI (Nat.lt_of_lt_of_le HVfree.out r3)
  replace HKa := hidI (HKa.out.turn r2)
  replace HKd := hidI (HKd.out.turn r2)
  have HC11 := hidI hec
  clear r1 r2 r3 hec x0 a0 d0
  have x0 := HT11.out.x0
  have a0 := cell_of_block (o := 0) HKa.out.blk rfl
  have d0 := cell_of_block (o := 0) HKd.out.blk rfl
  go_wp2_with fail
  refine (emwith_any HT11.out.code 10 2 1 3).mono ?_
  rintro e w12 ⟨rfl, own12, r1, r2, r3⟩
  generalize hec : c11.with_ 10 2 1 3 = c12 at r1 r3
  have HT12 := hidI (HT11.out.next r1 r2)
  have HU12 := hidI (HU11.out.trans r2)
  have HL12 := hidI (Nat.le_trans HL11.out r3)
  replace HVrel := hidI (Nat.lt_of_lt_of_le HVrel.out r3)
  replace HVfree := hidI (Nat.lt_of_lt_of_le HVfree.out r3)
  replace HKa := hidI (HKa.out.turn r2)
  replace HKd := hidI (HKd.out.turn r2)
  have HC12 := hidI hec
  clear r1 r2 r3 hec x0 a0 d0
  have x0 := HT12.out.x0
  have a0 := cell_of_block (o := 0) HKa.out.blk rfl
  have d0 := cell_of_block (o := 0) HKd.out.blk rfl
  go_wp2_with fail
  refine (txget_any HT12.out OK.out 4 0 (by decide)).mono ?_
  rintro e w13 ⟨rfl, own13, r1, r2, r3⟩
  generalize hec : c12.get t 4 0 = c13 at r1 r3
  have HT13 := hidI (r1)
  have HU13 := hidI (HU12.out.trans r2)
  have HL13 := hidI (Nat.le_trans HL12.out r3)
  replace HVrel := hidI (Nat.lt_of_lt_of_le HVrel.out r3)
  replace HVfree := hidI (Nat.lt_of_lt_of_le HVfree.out r3)
  replace HKa := hidI (HKa.out.turn r2)
  replace HKd := hidI (HKd.out.turn r2)
  have HC13 := hidI hec
  clear r1 r2 r3 hec x0 a0 d0
  have x0 := HT13.out.x0
  have a0 := cell_of_block (o := 0) HKa.out.blk rfl
  have d0 := cell_of_block (o := 0) HKd.out.blk rfl
  go_wp2_with fail
  refine (emcalc_any HT13.out.code 13 4 2).mono ?_
  rintro e w14 ⟨rfl, own14, r1, r2, r3⟩
  generalize hec : c13.calc 13 4 2 = c14 at r1 r3
  have HT14 := hidI (HT13.out.next r1 r2)
  have HU14 := hidI (HU13.out.trans r2)
  have HL14 := hidI (Nat.le_trans HL13.out r3)
  replace HVrel := hidI (Nat.lt_of_lt_of_le HVrel.out r3)
  replace HVfree := hidI (Nat.lt_of_lt_of_le HVfree.out r3)
  replace HKa := hidI (HKa.out.turn r2)
  replace HKd := hidI (HKd.out.turn r2)
  have HC14 := hidI hec
  clear r1 r2 r3 hec x0 a0 d0
  have x0 := HT14.out.x0
  have a0 := cell_of_block (o := 0) HKa.out.blk rfl
  have d0 := cell_of_block (o := 0) HKd.out.blk rfl
  go_wp2_with fail
  refine (txunless_any HT14.out OK.out 4 HVrel.out (by have := HK.out; omega)).mono ?_
  rintro e w15 ⟨rfl, own15, r1, r2, r3⟩
  generalize hec : c14.unless t 4 rel = c15 at r1 r3
  have HT15 := hidI (r1)
  have HU15 := hidI (HU14.out.trans r2)
  have HL15 := hidI (Nat.le_trans HL14.out r3)
  replace HVrel := hidI (Nat.lt_of_lt_of_le HVrel.out r3)
  replace HVfree := hidI (Nat.lt_of_lt_of_le HVfree.out r3)
  replace HKa := hidI (HKa.out.turn r2)
  replace HKd := hidI (HKd.out.turn r2)
  have HC15 := hidI hec
  clear r1 r2 r3 hec x0 a0 d0
  have x0 := HT15.out.x0
  have a0 := cell_of_block (o := 0) HKa.out.blk rfl
  have d0 := cell_of_block (o := 0) HKd.out.blk rfl
  go_wp2_with fail
  go_end0
  have q1 := HC1.out
  have q2 := HC2.out
  have q3 := HC3.out
  have q4 := HC4.out
  have q5 := HC5.out
  have q6 := HC6.out
  have q7 := HC7.out
  have q8 := HC8.out
  have q9 := HC9.out
  have q10 := HC10.out
  have q11 := HC11.out
  have q12 := HC12.out
  have q13 := HC13.out
  have q14 := HC14.out
  have q15 := HC15.out
  have pfree := HFfree.out
  subst q1 q2 q3 q4 q5 q6 q7 q8 q9 q10 q11 q12 q13 q14 q15
  subst pfree
  exact ⟨rfl, own15, HT15.out, HU15.out, HL15.out⟩
end

section
open Go.RowKit Go.Maps

variable {w w' w1 w2 : World} {own own1 own2 : Nat → Prop} {bc k br : Nat} {tv : Value} {t : TxC}

def Cd.entries_l (t : TxC) (c0 : Cd) : Cd :=
  let loop := c0.labs.length
  let c1 := c0.label
  let fin := c1.labs.length
  let c2 := c1.label
  let c3 := c2.get t 6 2
  let c4 := c3.set 5 t.log
  let c5 := c4.here loop
  let c6 := c5.zero 6 fin
  let c7 := c6.locks1 t
  let c8 := c7.with_ 1 5 2 4
  let c9 := c8.with_ 2 6 1 4
  let c10 := c9.jump loop
  let c11 := c10.here fin
  c11
set_option maxRecDepth 100000 in
set_option maxHeartbeats 4000000 in
theorem txentries_l_any {c0 : Cd} {ba : Nat} (h : TxAt w own br bc tv t c0 k) (ok : TxOk t) (hka : Keep w own ba (.cells #[.pointer (some ⟨br, 0, none⟩)] 166 (0, 0))) (hk : k ≤ 1099509000000) :
    Calls Tryz.prog 130 #[.pointer (some ⟨br, 0, none⟩), .func (.func 162) #[] #[.pointer (some ⟨ba, 0, none⟩)]] w (EmT own w br bc tv t c0 (c0.entries_l t) (k + 4)) := by
  have HT0 := hidI h
  have OK := hidI ok
  have HK := hidI hk
  have HU0 := hidI (Turn.refl own w)
  have HL0 := hidI (Nat.le_refl c0.labs.length)
  have HKa := hidI hka
  have x0 := HT0.out.x0
  have x5 := HT0.out.x5
  have a0 := cell_of_block (o := 0) HKa.out.blk rfl
  clear h ok hk hka
  go_enter Tryz.func130, Tryz.ntmps130
  go_wp2_with fail
  go_region_held3 (fun w' => w'.cell? ⟨br, 0, none⟩ = some (.pointer (some ⟨bc, 0, none⟩)) ∧ w'.cell? ⟨ba, 0, none⟩ = some (.pointer (some ⟨br, 0, none⟩))) (refine ⟨?_, ?_⟩ <;> first | assumption | simp only [World.cell?_drew, *]) (first
    | (go_at_call 85; refine (label_any HT1.out.code (by have := HK.out; omega)).mono ?_; rintro e w2 ⟨rfl, own2, r1, r2, r3⟩; have r4 : c1.labs.length < (c1.label).labs.length := (by simp [Cd.label]); generalize hec : c1.label = c2 at r1 r3 r4; obtain ⟨fin, hf⟩ : ∃ x, x = c1.labs.length := ⟨_, rfl⟩; rw [← hf] at r4 ⊢; have HT2 := hidI (HT1.out.next r1 r2); have HU2 := hidI (HU1.out.trans r2); have HL2 := hidI (Nat.le_trans HL1.out r3); replace HVloop := hidI (Nat.lt_of_lt_of_le HVloop.out r3); replace HKa := hidI (HKa.out.turn r2); have HVfin := hidI r4; have HFfin := hidI hf; have HC2 := hidI hec; clear r1 r2 r3 hec r4 hf x0 x5 a0; have x0 := HT2.out.x0; have x5 := HT2.out.x5; have a0 := cell_of_block (o := 0) HKa.out.blk rfl)
    | (go_at_call 85; refine (label_any HT0.out.drew.code (by have := HK.out; omega)).mono ?_; rintro e w1 ⟨rfl, own1, r1, r2, r3⟩; have r4 : c0.labs.length < (c0.label).labs.length := (by simp [Cd.label]); generalize hec : c0.label = c1 at r1 r3 r4; obtain ⟨loop, hf⟩ : ∃ x, x = c0.labs.length := ⟨_, rfl⟩; rw [← hf] at r4 ⊢; have HT1 := hidI (HT0.out.drew.next r1 r2); have HU1 := hidI (HU0.out.drew.trans r2); have HL1 := hidI (Nat.le_trans HL0.out r3); replace HKa := hidI (HKa.out.drew.turn r2); have HVloop := hidI r4; have HFloop := hidI hf; have HC1 := hidI hec; clear r1 r2 r3 hec r4 hf x0 x5 a0; have x0 := HT1.out.x0; have x5 := HT1.out.x5; have a0 := cell_of_block (o := 0) HKa.out.blk rfl)
    )
  go_wp2_with fail
  refine (txget_any HT2.out OK.out 6 2 (by decide)).mono ?_
  rintro e w3 ⟨rfl, own3, r1, r2, r3⟩
  generalize hec : c2.get t 6 2 = c3 at r1 r3
  have HT3 := hidI (r1)
  have HU3 := hidI (HU2.out.trans r2)
  have HL3 := hidI (Nat.le_trans HL2.out r3)
  replace HVloop := hidI (Nat.lt_of_lt_of_le HVloop.out r3)
  replace HVfin := hidI (Nat.lt_of_lt_of_le HVfin.out r3)
  replace HKa := hidI (HKa.out.turn r2)
  have HC3 := hidI hec
  clear r1 r2 r3 hec x0 x5 a0
  have x0 := HT3.out.x0
  have x5 := HT3.out.x5
  have a0 := cell_of_block (o := 0) HKa.out.blk rfl
  go_wp2_with fail
  go_still_tail 9, (by kernel_rfl)
  go_wp2_with fail
  refine (emset_any HT3.out.code.drew 5 t.log).mono ?_
  rintro e w4 ⟨rfl, own4, r1, r2, r3⟩
  generalize hec : c3.set 5 t.log = c4 at r1 r3
  have HT4 := hidI (HT3.out.drew.next r1 r2)
  have HU4 := hidI (HU3.out.drew.trans r2)
  have HL4 := hidI (Nat.le_trans HL3.out r3)
  replace HVloop := hidI (Nat.lt_of_lt_of_le HVloop.out r3)
  replace HVfin := hidI (Nat.lt_of_lt_of_le HVfin.out r3)
  replace HKa := hidI (HKa.out.drew.turn r2)
  have HC4 := hidI hec
  clear r1 r2 r3 hec x0 x5 a0
  have x0 := HT4.out.x0
  have x5 := HT4.out.x5
  have a0 := cell_of_block (o := 0) HKa.out.blk rfl
  go_wp2_with fail
  refine (here_any HT4.out.code HVloop.out).mono ?_
  rintro e w5 ⟨rfl, own5, r1, r2, r3⟩
  generalize hec : c4.here loop = c5 at r1 r3
  have HT5 := hidI (HT4.out.next r1 r2)
  have HU5 := hidI (HU4.out.trans r2)
  have HL5 := hidI (Nat.le_trans HL4.out r3)
  replace HVloop := hidI (Nat.lt_of_lt_of_le HVloop.out r3)
  replace HVfin := hidI (Nat.lt_of_lt_of_le HVfin.out r3)
  replace HKa := hidI (HKa.out.turn r2)
  have HC5 := hidI hec
  clear r1 r2 r3 hec x0 x5 a0
  have x0 := HT5.out.x0
  have x5 := HT5.out.x5
  have a0 := cell_of_block (o := 0) HKa.out.blk rfl
  go_wp2_with fail
  refine (zero_any HT5.out.code 6 HVfin.out (by have := HK.out; omega)).mono ?_
  rintro e w6 ⟨rfl, own6, r1, r2, r3⟩
  generalize hec : c5.zero 6 fin = c6 at r1 r3
  have HT6 := hidI (HT5.out.next r1 r2)
  have HU6 := hidI (HU5.out.trans r2)
  have HL6 := hidI (Nat.le_trans HL5.out r3)
  replace HVloop := hidI (Nat.lt_of_lt_of_le HVloop.out r3)
  replace HVfin := hidI (Nat.lt_of_lt_of_le HVfin.out r3)
  replace HKa := hidI (HKa.out.turn r2)
  have HC6 := hidI hec
  clear r1 r2 r3 hec x0 x5 a0
  have x0 := HT6.out.x0
  have x5 := HT6.out.x5
  have a0 := cell_of_block (o := 0) HKa.out.blk rfl
  go_wp2_with fail
  refine (txlocks1_any HT6.out OK.out  HKa.out (by have := HK.out; omega)).mono ?_
  rintro e w7 ⟨rfl, own7, r1, r2, r3⟩
  generalize hec : c6.locks1 t = c7 at r1 r3
  have HT7 := hidI (r1)
  have HU7 := hidI (HU6.out.trans r2)
  have HL7 := hidI (Nat.le_trans HL6.out r3)
  replace HVloop := hidI (Nat.lt_of_lt_of_le HVloop.out r3)
  replace HVfin := hidI (Nat.lt_of_lt_of_le HVfin.out r3)
  replace HKa := hidI (HKa.out.turn r2)
  have HC7 := hidI hec
  clear r1 r2 r3 hec x0 x5 a0
  have x0 := HT7.out.x0
  have x5 := HT7.out.x5
  have a0 := cell_of_block (o := 0) HKa.out.blk rfl
  go_wp2_with fail
  refine (emwith_any HT7.out.code 1 5 2 4).mono ?_
  rintro e w8 ⟨rfl, own8, r1, r2, r3⟩
  generalize hec : c7.with_ 1 5 2 4 = c8 at r1 r3
  have HT8 := hidI (HT7.out.next r1 r2)
  have HU8 := hidI (HU7.out.trans r2)
  have HL8 := hidI (Nat.le_trans HL7.out r3)
  replace HVloop := hidI (Nat.lt_of_lt_of_le HVloop.out r3)
  replace HVfin := hidI (Nat.lt_of_lt_of_le HVfin.out r3)
  replace HKa := hidI (HKa.out.turn r2)
  have HC8 := hidI hec
  clear r1 r2 r3 hec x0 x5 a0
  have x0 := HT8.out.x0
  have x5 := HT8.out.x5
  have a0 := cell_of_block (o := 0) HKa.out.blk rfl
  go_wp2_with fail
  refine (emwith_any HT8.out.code 2 6 1 4).mono ?_
  rintro e w9 ⟨rfl, own9, r1, r2, r3⟩
  generalize hec : c8.with_ 2 6 1 4 = c9 at r1 r3
  have HT9 := hidI (HT8.out.next r1 r2)
  have HU9 := hidI (HU8.out.trans r2)
  have HL9 := hidI (Nat.le_trans HL8.out r3)
  replace HVloop := hidI (Nat.lt_of_lt_of_le HVloop.out r3)
  replace HVfin := hidI (Nat.lt_of_lt_of_le HVfin.out r3)
  replace HKa := hidI (HKa.out.turn r2)
  have HC9 := hidI hec
  clear r1 r2 r3 hec x0 x5 a0
  have x0 := HT9.out.x0
  have x5 := HT9.out.x5
  have a0 := cell_of_block (o := 0) HKa.out.blk rfl
  go_wp2_with fail
  refine (jump_any HT9.out.code HVloop.out (by have := HK.out; omega)).mono ?_
  rintro e w10 ⟨rfl, own10, r1, r2, r3⟩
  generalize hec : c9.jump loop = c10 at r1 r3
  have HT10 := hidI (HT9.out.next r1 r2)
  have HU10 := hidI (HU9.out.trans r2)
  have HL10 := hidI (Nat.le_trans HL9.out r3)
  replace HVloop := hidI (Nat.lt_of_lt_of_le HVloop.out r3)
  replace HVfin := hidI (Nat.lt_of_lt_of_le HVfin.out r3)
  replace HKa := hidI (HKa.out.turn r2)
  have HC10 := hidI hec
  clear r1 r2 r3 hec x0 x5 a0
  have x0 := HT10.out.x0
  have x5 := HT10.out.x5
  have a0 := cell_of_block (o := 0) HKa.out.blk rfl
  go_wp2_with fail
  refine (here_any HT10.out.code HVfin.out).mono ?_
  rintro e w11 ⟨rfl, own11, r1, r2, r3⟩
  generalize hec : c10.here fin = c11 at r1 r3
  have HT11 := hidI (HT10.out.next r1 r2)
  have HU11 := hidI (HU10.out.trans r2)
  have HL11 := hidI (Nat.le_trans HL10.out r3)
  replace HVloop := hidI (Nat.lt_of_lt_of_le HVloop.out r3)
  replace HVfin := hidI (Nat.lt_of_lt_of_le HVfin.out r3)
  replace HKa := hidI (HKa.out.turn r2)
  have HC11 := hidI hec
  clear r1 r2 r3 hec x0 x5 a0
  have x0 := HT11.out.x0
  have x5 := HT11.out.x5
  have a0 := cell_of_block (o := 0) HKa.out.blk rfl
  go_wp2_with fail
  go_end0
  have q1 := HC1.out
  have q2 := HC2.out
  have q3 := HC3.out
  have q4 := HC4.out
  have q5 := HC5.out
  have q6 := HC6.out
  have q7 := HC7.out
  have q8 := HC8.out
  have q9 := HC9.out
  have q10 := HC10.out
  have q11 := HC11.out
  have ploop := HFloop.out
  have pfin := HFfin.out
  subst q1 q2 q3 q4 q5 q6 q7 q8 q9 q10 q11
  subst ploop pfin
  exact ⟨rfl, own11, HT11.out, HU11.out, HL11.out⟩

def Cd.entries_c (t : TxC) (c0 : Cd) : Cd :=
  let loop := c0.labs.length
  let c1 := c0.label
  let fin := c1.labs.length
  let c2 := c1.label
  let c3 := c2.get t 6 2
  let c4 := c3.set 5 t.log
  let c5 := c4.here loop
  let c6 := c5.zero 6 fin
  let c7 := c6.commit1 t
  let c8 := c7.with_ 1 5 2 4
  let c9 := c8.with_ 2 6 1 4
  let c10 := c9.jump loop
  let c11 := c10.here fin
  c11
set_option maxRecDepth 100000 in
set_option maxHeartbeats 4000000 in
theorem txentries_c_any {c0 : Cd} {ba : Nat} (h : TxAt w own br bc tv t c0 k) (ok : TxOk t) (hka : Keep w own ba (.cells #[.pointer (some ⟨br, 0, none⟩)] 166 (0, 0))) (hk : k ≤ 1099509000000) :
    Calls Tryz.prog 130 #[.pointer (some ⟨br, 0, none⟩), .func (.func 131) #[] #[.pointer (some ⟨ba, 0, none⟩)]] w (EmT own w br bc tv t c0 (c0.entries_c t) (k + 4)) := by
  have HT0 := hidI h
  have OK := hidI ok
  have HK := hidI hk
  have HU0 := hidI (Turn.refl own w)
  have HL0 := hidI (Nat.le_refl c0.labs.length)
  have HKa := hidI hka
  have x0 := HT0.out.x0
  have x5 := HT0.out.x5
  have a0 := cell_of_block (o := 0) HKa.out.blk rfl
  clear h ok hk hka
  go_enter Tryz.func130, Tryz.ntmps130
  go_wp2_with fail
  go_region_held3 (fun w' => w'.cell? ⟨br, 0, none⟩ = some (.pointer (some ⟨bc, 0, none⟩)) ∧ w'.cell? ⟨ba, 0, none⟩ = some (.pointer (some ⟨br, 0, none⟩))) (refine ⟨?_, ?_⟩ <;> first | assumption | simp only [World.cell?_drew, *]) (first
    | (go_at_call 85; refine (label_any HT1.out.code (by have := HK.out; omega)).mono ?_; rintro e w2 ⟨rfl, own2, r1, r2, r3⟩; have r4 : c1.labs.length < (c1.label).labs.length := (by simp [Cd.label]); generalize hec : c1.label = c2 at r1 r3 r4; obtain ⟨fin, hf⟩ : ∃ x, x = c1.labs.length := ⟨_, rfl⟩; rw [← hf] at r4 ⊢; have HT2 := hidI (HT1.out.next r1 r2); have HU2 := hidI (HU1.out.trans r2); have HL2 := hidI (Nat.le_trans HL1.out r3); replace HVloop := hidI (Nat.lt_of_lt_of_le HVloop.out r3); replace HKa := hidI (HKa.out.turn r2); have HVfin := hidI r4; have HFfin := hidI hf; have HC2 := hidI hec; clear r1 r2 r3 hec r4 hf x0 x5 a0; have x0 := HT2.out.x0; have x5 := HT2.out.x5; have a0 := cell_of_block (o := 0) HKa.out.blk rfl)
    | (go_at_call 85; refine (label_any HT0.out.drew.code (by have := HK.out; omega)).mono ?_; rintro e w1 ⟨rfl, own1, r1, r2, r3⟩; have r4 : c0.labs.length < (c0.label).labs.length := (by simp [Cd.label]); generalize hec : c0.label = c1 at r1 r3 r4; obtain ⟨loop, hf⟩ : ∃ x, x = c0.labs.length := ⟨_, rfl⟩; rw [← hf] at r4 ⊢; have HT1 := hidI (HT0.out.drew.next r1 r2); have HU1 := hidI (HU0.out.drew.trans r2); have HL1 := hidI (Nat.le_trans HL0.out r3); replace HKa := hidI (HKa.out.drew.turn r2); have HVloop := hidI r4; have HFloop := hidI hf; have HC1 := hidI hec; clear r1 r2 r3 hec r4 hf x0 x5 a0; have x0 := HT1.out.x0; have x5 := HT1.out.x5; have a0 := cell_of_block (o := 0) HKa.out.blk rfl)
    )
  go_wp2_with fail
  refine (txget_any HT2.out OK.out 6 2 (by decide)).mono ?_
  rintro e w3 ⟨rfl, own3, r1, r2, r3⟩
  generalize hec : c2.get t 6 2 = c3 at r1 r3
  have HT3 := hidI (r1)
  have HU3 := hidI (HU2.out.trans r2)
  have HL3 := hidI (Nat.le_trans HL2.out r3)
  replace HVloop := hidI (Nat.lt_of_lt_of_le HVloop.out r3)
  replace HVfin := hidI (Nat.lt_of_lt_of_le HVfin.out r3)
  replace HKa := hidI (HKa.out.turn r2)
  have HC3 := hidI hec
  clear r1 r2 r3 hec x0 x5 a0
  have x0 := HT3.out.x0
  have x5 := HT3.out.x5
  have a0 := cell_of_block (o := 0) HKa.out.blk rfl
  go_wp2_with fail
  go_still_tail 9, (by kernel_rfl)
  go_wp2_with fail
  refine (emset_any HT3.out.code.drew 5 t.log).mono ?_
  rintro e w4 ⟨rfl, own4, r1, r2, r3⟩
  generalize hec : c3.set 5 t.log = c4 at r1 r3
  have HT4 := hidI (HT3.out.drew.next r1 r2)
  have HU4 := hidI (HU3.out.drew.trans r2)
  have HL4 := hidI (Nat.le_trans HL3.out r3)
  replace HVloop := hidI (Nat.lt_of_lt_of_le HVloop.out r3)
  replace HVfin := hidI (Nat.lt_of_lt_of_le HVfin.out r3)
  replace HKa := hidI (HKa.out.drew.turn r2)
  have HC4 := hidI hec
  clear r1 r2 r3 hec x0 x5 a0
  have x0 := HT4.out.x0
  have x5 := HT4.out.x5
  have a0 := cell_of_block (o := 0) HKa.out.blk rfl
  go_wp2_with fail
  refine (here_any HT4.out.code HVloop.out).mono ?_
  rintro e w5 ⟨rfl, own5, r1, r2, r3⟩
  generalize hec : c4.here loop = c5 at r1 r3
  have HT5 := hidI (HT4.out.next r1 r2)
  have HU5 := hidI (HU4.out.trans r2)
  have HL5 := hidI (Nat.le_trans HL4.out r3)
  replace HVloop := hidI (Nat.lt_of_lt_of_le HVloop.out r3)
  replace HVfin := hidI (Nat.lt_of_lt_of_le HVfin.out r3)
  replace HKa := hidI (HKa.out.turn r2)
  have HC5 := hidI hec
  clear r1 r2 r3 hec x0 x5 a0
  have x0 := HT5.out.x0
  have x5 := HT5.out.x5
  have a0 := cell_of_block (o := 0) HKa.out.blk rfl
  go_wp2_with fail
  refine (zero_any HT5.out.code 6 HVfin.out (by have := HK.out; omega)).mono ?_
  rintro e w6 ⟨rfl, own6, r1, r2, r3⟩
  generalize hec : c5.zero 6 fin = c6 at r1 r3
  have HT6 := hidI (HT5.out.next r1 r2)
  have HU6 := hidI (HU5.out.trans r2)
  have HL6 := hidI (Nat.le_trans HL5.out r3)
  replace HVloop := hidI (Nat.lt_of_lt_of_le HVloop.out r3)
  replace HVfin := hidI (Nat.lt_of_lt_of_le HVfin.out r3)
  replace HKa := hidI (HKa.out.turn r2)
  have HC6 := hidI hec
  clear r1 r2 r3 hec x0 x5 a0
  have x0 := HT6.out.x0
  have x5 := HT6.out.x5
  have a0 := cell_of_block (o := 0) HKa.out.blk rfl
  go_wp2_with fail
  refine (txcommit1_any HT6.out OK.out  HKa.out (by have := HK.out; omega)).mono ?_
  rintro e w7 ⟨rfl, own7, r1, r2, r3⟩
  generalize hec : c6.commit1 t = c7 at r1 r3
  have HT7 := hidI (r1)
  have HU7 := hidI (HU6.out.trans r2)
  have HL7 := hidI (Nat.le_trans HL6.out r3)
  replace HVloop := hidI (Nat.lt_of_lt_of_le HVloop.out r3)
  replace HVfin := hidI (Nat.lt_of_lt_of_le HVfin.out r3)
  replace HKa := hidI (HKa.out.turn r2)
  have HC7 := hidI hec
  clear r1 r2 r3 hec x0 x5 a0
  have x0 := HT7.out.x0
  have x5 := HT7.out.x5
  have a0 := cell_of_block (o := 0) HKa.out.blk rfl
  go_wp2_with fail
  refine (emwith_any HT7.out.code 1 5 2 4).mono ?_
  rintro e w8 ⟨rfl, own8, r1, r2, r3⟩
  generalize hec : c7.with_ 1 5 2 4 = c8 at r1 r3
  have HT8 := hidI (HT7.out.next r1 r2)
  have HU8 := hidI (HU7.out.trans r2)
  have HL8 := hidI (Nat.le_trans HL7.out r3)
  replace HVloop := hidI (Nat.lt_of_lt_of_le HVloop.out r3)
  replace HVfin := hidI (Nat.lt_of_lt_of_le HVfin.out r3)
  replace HKa := hidI (HKa.out.turn r2)
  have HC8 := hidI hec
  clear r1 r2 r3 hec x0 x5 a0
  have x0 := HT8.out.x0
  have x5 := HT8.out.x5
  have a0 := cell_of_block (o := 0) HKa.out.blk rfl
  go_wp2_with fail
  refine (emwith_any HT8.out.code 2 6 1 4).mono ?_
  rintro e w9 ⟨rfl, own9, r1, r2, r3⟩
  generalize hec : c8.with_ 2 6 1 4 = c9 at r1 r3
  have HT9 := hidI (HT8.out.next r1 r2)
  have HU9 := hidI (HU8.out.trans r2)
  have HL9 := hidI (Nat.le_trans HL8.out r3)
  replace HVloop := hidI (Nat.lt_of_lt_of_le HVloop.out r3)
  replace HVfin := hidI (Nat.lt_of_lt_of_le HVfin.out r3)
  replace HKa := hidI (HKa.out.turn r2)
  have HC9 := hidI hec
  clear r1 r2 r3 hec x0 x5 a0
  have x0 := HT9.out.x0
  have x5 := HT9.out.x5
  have a0 := cell_of_block (o := 0) HKa.out.blk rfl
  go_wp2_with fail
  refine (jump_any HT9.out.code HVloop.out (by have := HK.out; omega)).mono ?_
  rintro e w10 ⟨rfl, own10, r1, r2, r3⟩
  generalize hec : c9.jump loop = c10 at r1 r3
  have HT10 := hidI (HT9.out.next r1 r2)
  have HU10 := hidI (HU9.out.trans r2)
  have HL10 := hidI (Nat.le_trans HL9.out r3)
  replace HVloop := hidI (Nat.lt_of_lt_of_le HVloop.out r3)
  replace HVfin := hidI (Nat.lt_of_lt_of_le HVfin.out r3)
  replace HKa := hidI (HKa.out.turn r2)
  have HC10 := hidI hec
  clear r1 r2 r3 hec x0 x5 a0
  have x0 := HT10.out.x0
  have x5 := HT10.out.x5
  have a0 := cell_of_block (o := 0) HKa.out.blk rfl
  go_wp2_with fail
  refine (here_any HT10.out.code HVfin.out).mono ?_
  rintro e w11 ⟨rfl, own11, r1, r2, r3⟩
  generalize hec : c10.here fin = c11 at r1 r3
  have HT11 := hidI (HT10.out.next r1 r2)
  have HU11 := hidI (HU10.out.trans r2)
  have HL11 := hidI (Nat.le_trans HL10.out r3)
  replace HVloop := hidI (Nat.lt_of_lt_of_le HVloop.out r3)
  replace HVfin := hidI (Nat.lt_of_lt_of_le HVfin.out r3)
  replace HKa := hidI (HKa.out.turn r2)
  have HC11 := hidI hec
  clear r1 r2 r3 hec x0 x5 a0
  have x0 := HT11.out.x0
  have x5 := HT11.out.x5
  have a0 := cell_of_block (o := 0) HKa.out.blk rfl
  go_wp2_with fail
  go_end0
  have q1 := HC1.out
  have q2 := HC2.out
  have q3 := HC3.out
  have q4 := HC4.out
  have q5 := HC5.out
  have q6 := HC6.out
  have q7 := HC7.out
  have q8 := HC8.out
  have q9 := HC9.out
  have q10 := HC10.out
  have q11 := HC11.out
  have ploop := HFloop.out
  have pfin := HFfin.out
  subst q1 q2 q3 q4 q5 q6 q7 q8 q9 q10 q11
  subst ploop pfin
  exact ⟨rfl, own11, HT11.out, HU11.out, HL11.out⟩

def Cd.stripes_l (t : TxC) (rel : Nat) (c0 : Cd) : Cd :=
  let loop := c0.labs.length
  let c1 := c0.label
  let next := c1.labs.length
  let c2 := c1.label
  let fin := c2.labs.length
  let c3 := c2.label
  let c4 := c3.set 6 0
  let c5 := c4.here loop
  let c6 := c5.move 4 6
  let c7 := c6.with_ 13 4 16 3
  let c8 := c7.zero 4 fin
  let c9 := c8.get t 4 7
  let c10 := c9.calc 10 4 6
  let c11 := c10.with_ 6 4 1 3
  let c12 := c11.zero 4 next
  let c13 := c12.locks2 t rel
  let c14 := c13.here next
  let c15 := c14.with_ 1 6 1 3
  let c16 := c15.jump loop
  let c17 := c16.here fin
  c17
set_option maxRecDepth 100000 in
set_option maxHeartbeats 4000000 in
theorem txstripes_l_any {c0 : Cd} {rel : Nat} {ba : Nat} {bd : Nat} (h : TxAt w own br bc tv t c0 k) (ok : TxOk t) (hlrel : rel < c0.labs.length) (hka : Keep w own ba (.cells #[.pointer (some ⟨br, 0, none⟩)] 166 (0, 0))) (hkd : Keep w own bd (.cells #[.int .i64 (rel : Int)] 169 (0, 0))) (hk : k ≤ 1099509000000) :
    Calls Tryz.prog 132 #[.pointer (some ⟨br, 0, none⟩), .int .i64 7, .func (.func 163) #[] #[.pointer (some ⟨ba, 0, none⟩), .pointer (some ⟨bd, 0, none⟩)]] w (EmT own w br bc tv t c0 (c0.stripes_l t rel) (k + 12)) := by
  have HT0 := hidI h
  have OK := hidI ok
  have HK := hidI hk
  have HU0 := hidI (Turn.refl own w)
  have HL0 := hidI (Nat.le_refl c0.labs.length)
  have HVrel := hidI hlrel
  have HKa := hidI hka
  have HKd := hidI hkd
  have x0 := HT0.out.x0
  have a0 := cell_of_block (o := 0) HKa.out.blk rfl
  have d0 := cell_of_block (o := 0) HKd.out.blk rfl
  clear h ok hk hlrel hka hkd
  go_enter Tryz.func132, Tryz.ntmps132
  go_wp2_with fail
  go_region_held3 (fun w' => w'.cell? ⟨br, 0, none⟩ = some (.pointer (some ⟨bc, 0, none⟩)) ∧ w'.cell? ⟨ba, 0, none⟩ = some (.pointer (some ⟨br, 0, none⟩)) ∧ w'.cell? ⟨bd, 0, none⟩ = some (.int .i64 (rel : Int))) (refine ⟨?_, ?_, ?_⟩ <;> first | assumption | simp only [World.cell?_drew, *]) (first
    | (go_at_call 85; refine (label_any HT2.out.code (by have := HK.out; omega)).mono ?_; rintro e w3 ⟨rfl, own3, r1, r2, r3⟩; have r4 : c2.labs.length < (c2.label).labs.length := (by simp [Cd.label]); generalize hec : c2.label = c3 at r1 r3 r4; obtain ⟨fin, hf⟩ : ∃ x, x = c2.labs.length := ⟨_, rfl⟩; rw [← hf] at r4 ⊢; have HT3 := hidI (HT2.out.next r1 r2); have HU3 := hidI (HU2.out.trans r2); have HL3 := hidI (Nat.le_trans HL2.out r3); replace HVrel := hidI (Nat.lt_of_lt_of_le HVrel.out r3); replace HVloop := hidI (Nat.lt_of_lt_of_le HVloop.out r3); replace HVnext := hidI (Nat.lt_of_lt_of_le HVnext.out r3); replace HKa := hidI (HKa.out.turn r2); replace HKd := hidI (HKd.out.turn r2); have HVfin := hidI r4; have HFfin := hidI hf; have HC3 := hidI hec; clear r1 r2 r3 hec r4 hf x0 a0 d0; have x0 := HT3.out.x0; have a0 := cell_of_block (o := 0) HKa.out.blk rfl; have d0 := cell_of_block (o := 0) HKd.out.blk rfl)
    | (go_at_call 85; refine (label_any HT1.out.code (by have := HK.out; omega)).mono ?_; rintro e w2 ⟨rfl, own2, r1, r2, r3⟩; have r4 : c1.labs.length < (c1.label).labs.length := (by simp [Cd.label]); generalize hec : c1.label = c2 at r1 r3 r4; obtain ⟨next, hf⟩ : ∃ x, x = c1.labs.length := ⟨_, rfl⟩; rw [← hf] at r4 ⊢; have HT2 := hidI (HT1.out.next r1 r2); have HU2 := hidI (HU1.out.trans r2); have HL2 := hidI (Nat.le_trans HL1.out r3); replace HVrel := hidI (Nat.lt_of_lt_of_le HVrel.out r3); replace HVloop := hidI (Nat.lt_of_lt_of_le HVloop.out r3); replace HKa := hidI (HKa.out.turn r2); replace HKd := hidI (HKd.out.turn r2); have HVnext := hidI r4; have HFnext := hidI hf; have HC2 := hidI hec; clear r1 r2 r3 hec r4 hf x0 a0 d0; have x0 := HT2.out.x0; have a0 := cell_of_block (o := 0) HKa.out.blk rfl; have d0 := cell_of_block (o := 0) HKd.out.blk rfl)
    | (go_at_call 85; refine (label_any HT0.out.drew.code (by have := HK.out; omega)).mono ?_; rintro e w1 ⟨rfl, own1, r1, r2, r3⟩; have r4 : c0.labs.length < (c0.label).labs.length := (by simp [Cd.label]); generalize hec : c0.label = c1 at r1 r3 r4; obtain ⟨loop, hf⟩ : ∃ x, x = c0.labs.length := ⟨_, rfl⟩; rw [← hf] at r4 ⊢; have HT1 := hidI (HT0.out.drew.next r1 r2); have HU1 := hidI (HU0.out.drew.trans r2); have HL1 := hidI (Nat.le_trans HL0.out r3); replace HVrel := hidI (Nat.lt_of_lt_of_le HVrel.out r3); replace HKa := hidI (HKa.out.drew.turn r2); replace HKd := hidI (HKd.out.drew.turn r2); have HVloop := hidI r4; have HFloop := hidI hf; have HC1 := hidI hec; clear r1 r2 r3 hec r4 hf x0 a0 d0; have x0 := HT1.out.x0; have a0 := cell_of_block (o := 0) HKa.out.blk rfl; have d0 := cell_of_block (o := 0) HKd.out.blk rfl)
    )
  go_wp2_with fail
  refine (emset_any HT3.out.code 6 0).mono ?_
  rintro e w4 ⟨rfl, own4, r1, r2, r3⟩
  generalize hec : c3.set 6 0 = c4 at r1 r3
  have HT4 := hidI (HT3.out.next r1 r2)
  have HU4 := hidI (HU3.out.trans r2)
  have HL4 := hidI (Nat.le_trans HL3.out r3)
  replace HVrel := hidI (Nat.lt_of_lt_of_le HVrel.out r3)
  replace HVloop := hidI (Nat.lt_of_lt_of_le HVloop.out r3)
  replace HVnext := hidI (Nat.lt_of_lt_of_le HVnext.out r3)
  replace HVfin := hidI (Nat.lt_of_lt_of_le HVfin.out r3)
  replace HKa := hidI (HKa.out.turn r2)
  replace HKd := hidI (HKd.out.turn r2)
  have HC4 := hidI hec
  clear r1 r2 r3 hec x0 a0 d0
  have x0 := HT4.out.x0
  have a0 := cell_of_block (o := 0) HKa.out.blk rfl
  have d0 := cell_of_block (o := 0) HKd.out.blk rfl
  go_wp2_with fail
  refine (here_any HT4.out.code HVloop.out).mono ?_
  rintro e w5 ⟨rfl, own5, r1, r2, r3⟩
  generalize hec : c4.here loop = c5 at r1 r3
  have HT5 := hidI (HT4.out.next r1 r2)
  have HU5 := hidI (HU4.out.trans r2)
  have HL5 := hidI (Nat.le_trans HL4.out r3)
  replace HVrel := hidI (Nat.lt_of_lt_of_le HVrel.out r3)
  replace HVloop := hidI (Nat.lt_of_lt_of_le HVloop.out r3)
  replace HVnext := hidI (Nat.lt_of_lt_of_le HVnext.out r3)
  replace HVfin := hidI (Nat.lt_of_lt_of_le HVfin.out r3)
  replace HKa := hidI (HKa.out.turn r2)
  replace HKd := hidI (HKd.out.turn r2)
  have HC5 := hidI hec
  clear r1 r2 r3 hec x0 a0 d0
  have x0 := HT5.out.x0
  have a0 := cell_of_block (o := 0) HKa.out.blk rfl
  have d0 := cell_of_block (o := 0) HKd.out.blk rfl
  go_wp2_with fail
  refine (emmove_any HT5.out.code 4 6).mono ?_
  rintro e w6 ⟨rfl, own6, r1, r2, r3⟩
  generalize hec : c5.move 4 6 = c6 at r1 r3
  have HT6 := hidI (HT5.out.next r1 r2)
  have HU6 := hidI (HU5.out.trans r2)
  have HL6 := hidI (Nat.le_trans HL5.out r3)
  replace HVrel := hidI (Nat.lt_of_lt_of_le HVrel.out r3)
  replace HVloop := hidI (Nat.lt_of_lt_of_le HVloop.out r3)
  replace HVnext := hidI (Nat.lt_of_lt_of_le HVnext.out r3)
  replace HVfin := hidI (Nat.lt_of_lt_of_le HVfin.out r3)
  replace HKa := hidI (HKa.out.turn r2)
  replace HKd := hidI (HKd.out.turn r2)
  have HC6 := hidI hec
  clear r1 r2 r3 hec x0 a0 d0
  have x0 := HT6.out.x0
  have a0 := cell_of_block (o := 0) HKa.out.blk rfl
  have d0 := cell_of_block (o := 0) HKd.out.blk rfl
  go_wp2_with fail
  refine (emwith_any HT6.out.code 13 4 16 3).mono ?_
  rintro e w7 ⟨rfl, own7, r1, r2, r3⟩
  generalize hec : c6.with_ 13 4 16 3 = c7 at r1 r3
  have HT7 := hidI (HT6.out.next r1 r2)
  have HU7 := hidI (HU6.out.trans r2)
  have HL7 := hidI (Nat.le_trans HL6.out r3)
  replace HVrel := hidI (Nat.lt_of_lt_of_le HVrel.out r3)
  replace HVloop := hidI (Nat.lt_of_lt_of_le HVloop.out r3)
  replace HVnext := hidI (Nat.lt_of_lt_of_le HVnext.out r3)
  replace HVfin := hidI (Nat.lt_of_lt_of_le HVfin.out r3)
  replace HKa := hidI (HKa.out.turn r2)
  replace HKd := hidI (HKd.out.turn r2)
  have HC7 := hidI hec
  clear r1 r2 r3 hec x0 a0 d0
  have x0 := HT7.out.x0
  have a0 := cell_of_block (o := 0) HKa.out.blk rfl
  have d0 := cell_of_block (o := 0) HKd.out.blk rfl
  go_wp2_with fail
  refine (zero_any HT7.out.code 4 HVfin.out (by have := HK.out; omega)).mono ?_
  rintro e w8 ⟨rfl, own8, r1, r2, r3⟩
  generalize hec : c7.zero 4 fin = c8 at r1 r3
  have HT8 := hidI (HT7.out.next r1 r2)
  have HU8 := hidI (HU7.out.trans r2)
  have HL8 := hidI (Nat.le_trans HL7.out r3)
  replace HVrel := hidI (Nat.lt_of_lt_of_le HVrel.out r3)
  replace HVloop := hidI (Nat.lt_of_lt_of_le HVloop.out r3)
  replace HVnext := hidI (Nat.lt_of_lt_of_le HVnext.out r3)
  replace HVfin := hidI (Nat.lt_of_lt_of_le HVfin.out r3)
  replace HKa := hidI (HKa.out.turn r2)
  replace HKd := hidI (HKd.out.turn r2)
  have HC8 := hidI hec
  clear r1 r2 r3 hec x0 a0 d0
  have x0 := HT8.out.x0
  have a0 := cell_of_block (o := 0) HKa.out.blk rfl
  have d0 := cell_of_block (o := 0) HKd.out.blk rfl
  go_wp2_with fail
  refine (txget_any HT8.out OK.out 4 7 (by decide)).mono ?_
  rintro e w9 ⟨rfl, own9, r1, r2, r3⟩
  generalize hec : c8.get t 4 7 = c9 at r1 r3
  have HT9 := hidI (r1)
  have HU9 := hidI (HU8.out.trans r2)
  have HL9 := hidI (Nat.le_trans HL8.out r3)
  replace HVrel := hidI (Nat.lt_of_lt_of_le HVrel.out r3)
  replace HVloop := hidI (Nat.lt_of_lt_of_le HVloop.out r3)
  replace HVnext := hidI (Nat.lt_of_lt_of_le HVnext.out r3)
  replace HVfin := hidI (Nat.lt_of_lt_of_le HVfin.out r3)
  replace HKa := hidI (HKa.out.turn r2)
  replace HKd := hidI (HKd.out.turn r2)
  have HC9 := hidI hec
  clear r1 r2 r3 hec x0 a0 d0
  have x0 := HT9.out.x0
  have a0 := cell_of_block (o := 0) HKa.out.blk rfl
  have d0 := cell_of_block (o := 0) HKd.out.blk rfl
  go_wp2_with fail
  refine (emcalc_any HT9.out.code 10 4 6).mono ?_
  rintro e w10 ⟨rfl, own10, r1, r2, r3⟩
  generalize hec : c9.calc 10 4 6 = c10 at r1 r3
  have HT10 := hidI (HT9.out.next r1 r2)
  have HU10 := hidI (HU9.out.trans r2)
  have HL10 := hidI (Nat.le_trans HL9.out r3)
  replace HVrel := hidI (Nat.lt_of_lt_of_le HVrel.out r3)
  replace HVloop := hidI (Nat.lt_of_lt_of_le HVloop.out r3)
  replace HVnext := hidI (Nat.lt_of_lt_of_le HVnext.out r3)
  replace HVfin := hidI (Nat.lt_of_lt_of_le HVfin.out r3)
  replace HKa := hidI (HKa.out.turn r2)
  replace HKd := hidI (HKd.out.turn r2)
  have HC10 := hidI hec
  clear r1 r2 r3 hec x0 a0 d0
  have x0 := HT10.out.x0
  have a0 := cell_of_block (o := 0) HKa.out.blk rfl
  have d0 := cell_of_block (o := 0) HKd.out.blk rfl
  go_wp2_with fail
  refine (emwith_any HT10.out.code 6 4 1 3).mono ?_
  rintro e w11 ⟨rfl, own11, r1, r2, r3⟩
  generalize hec : c10.with_ 6 4 1 3 = c11 at r1 r3
  have HT11 := hidI (HT10.out.next r1 r2)
  have HU11 := hidI (HU10.out.trans r2)
  have HL11 := hidI (Nat.le_trans HL10.out r3)
  replace HVrel := hidI (Nat.lt_of_lt_of_le HVrel.out r3)
  replace HVloop := hidI (Nat.lt_of_lt_of_le HVloop.out r3)
  replace HVnext := hidI (Nat.lt_of_lt_of_le HVnext.out r3)
  replace HVfin := hidI (Nat.lt_of_lt_of_le HVfin.out r3)
  replace HKa := hidI (HKa.out.turn r2)
  replace HKd := hidI (HKd.out.turn r2)
  have HC11 := hidI hec
  clear r1 r2 r3 hec x0 a0 d0
  have x0 := HT11.out.x0
  have a0 := cell_of_block (o := 0) HKa.out.blk rfl
  have d0 := cell_of_block (o := 0) HKd.out.blk rfl
  go_wp2_with fail
  refine (zero_any HT11.out.code 4 HVnext.out (by have := HK.out; omega)).mono ?_
  rintro e w12 ⟨rfl, own12, r1, r2, r3⟩
  generalize hec : c11.zero 4 next = c12 at r1 r3
  have HT12 := hidI (HT11.out.next r1 r2)
  have HU12 := hidI (HU11.out.trans r2)
  have HL12 := hidI (Nat.le_trans HL11.out r3)
  replace HVrel := hidI (Nat.lt_of_lt_of_le HVrel.out r3)
  replace HVloop := hidI (Nat.lt_of_lt_of_le HVloop.out r3)
  replace HVnext := hidI (Nat.lt_of_lt_of_le HVnext.out r3)
  replace HVfin := hidI (Nat.lt_of_lt_of_le HVfin.out r3)
  replace HKa := hidI (HKa.out.turn r2)
  replace HKd := hidI (HKd.out.turn r2)
  have HC12 := hidI hec
  clear r1 r2 r3 hec x0 a0 d0
  have x0 := HT12.out.x0
  have a0 := cell_of_block (o := 0) HKa.out.blk rfl
  have d0 := cell_of_block (o := 0) HKd.out.blk rfl
  go_wp2_with fail
  refine (txlocks2_any HT12.out OK.out HVrel.out HKa.out HKd.out (by have := HK.out; omega)).mono ?_
  rintro e w13 ⟨rfl, own13, r1, r2, r3⟩
  generalize hec : c12.locks2 t rel = c13 at r1 r3
  have HT13 := hidI (r1)
  have HU13 := hidI (HU12.out.trans r2)
  have HL13 := hidI (Nat.le_trans HL12.out r3)
  replace HVrel := hidI (Nat.lt_of_lt_of_le HVrel.out r3)
  replace HVloop := hidI (Nat.lt_of_lt_of_le HVloop.out r3)
  replace HVnext := hidI (Nat.lt_of_lt_of_le HVnext.out r3)
  replace HVfin := hidI (Nat.lt_of_lt_of_le HVfin.out r3)
  replace HKa := hidI (HKa.out.turn r2)
  replace HKd := hidI (HKd.out.turn r2)
  have HC13 := hidI hec
  clear r1 r2 r3 hec x0 a0 d0
  have x0 := HT13.out.x0
  have a0 := cell_of_block (o := 0) HKa.out.blk rfl
  have d0 := cell_of_block (o := 0) HKd.out.blk rfl
  go_wp2_with fail
  refine (here_any HT13.out.code HVnext.out).mono ?_
  rintro e w14 ⟨rfl, own14, r1, r2, r3⟩
  generalize hec : c13.here next = c14 at r1 r3
  have HT14 := hidI (HT13.out.next r1 r2)
  have HU14 := hidI (HU13.out.trans r2)
  have HL14 := hidI (Nat.le_trans HL13.out r3)
  replace HVrel := hidI (Nat.lt_of_lt_of_le HVrel.out r3)
  replace HVloop := hidI (Nat.lt_of_lt_of_le HVloop.out r3)
  replace HVnext := hidI (Nat.lt_of_lt_of_le HVnext.out r3)
  replace HVfin := hidI (Nat.lt_of_lt_of_le HVfin.out r3)
  replace HKa := hidI (HKa.out.turn r2)
  replace HKd := hidI (HKd.out.turn r2)
  have HC14 := hidI hec
  clear r1 r2 r3 hec x0 a0 d0
  have x0 := HT14.out.x0
  have a0 := cell_of_block (o := 0) HKa.out.blk rfl
  have d0 := cell_of_block (o := 0) HKd.out.blk rfl
  go_wp2_with fail
  refine (emwith_any HT14.out.code 1 6 1 3).mono ?_
  rintro e w15 ⟨rfl, own15, r1, r2, r3⟩
  generalize hec : c14.with_ 1 6 1 3 = c15 at r1 r3
  have HT15 := hidI (HT14.out.next r1 r2)
  have HU15 := hidI (HU14.out.trans r2)
  have HL15 := hidI (Nat.le_trans HL14.out r3)
  replace HVrel := hidI (Nat.lt_of_lt_of_le HVrel.out r3)
  replace HVloop := hidI (Nat.lt_of_lt_of_le HVloop.out r3)
  replace HVnext := hidI (Nat.lt_of_lt_of_le HVnext.out r3)
  replace HVfin := hidI (Nat.lt_of_lt_of_le HVfin.out r3)
  replace HKa := hidI (HKa.out.turn r2)
  replace HKd := hidI (HKd.out.turn r2)
  have HC15 := hidI hec
  clear r1 r2 r3 hec x0 a0 d0
  have x0 := HT15.out.x0
  have a0 := cell_of_block (o := 0) HKa.out.blk rfl
  have d0 := cell_of_block (o := 0) HKd.out.blk rfl
  go_wp2_with fail
  refine (jump_any HT15.out.code HVloop.out (by have := HK.out; omega)).mono ?_
  rintro e w16 ⟨rfl, own16, r1, r2, r3⟩
  generalize hec : c15.jump loop = c16 at r1 r3
  have HT16 := hidI (HT15.out.next r1 r2)
  have HU16 := hidI (HU15.out.trans r2)
  have HL16 := hidI (Nat.le_trans HL15.out r3)
  replace HVrel := hidI (Nat.lt_of_lt_of_le HVrel.out r3)
  replace HVloop := hidI (Nat.lt_of_lt_of_le HVloop.out r3)
  replace HVnext := hidI (Nat.lt_of_lt_of_le HVnext.out r3)
  replace HVfin := hidI (Nat.lt_of_lt_of_le HVfin.out r3)
  replace HKa := hidI (HKa.out.turn r2)
  replace HKd := hidI (HKd.out.turn r2)
  have HC16 := hidI hec
  clear r1 r2 r3 hec x0 a0 d0
  have x0 := HT16.out.x0
  have a0 := cell_of_block (o := 0) HKa.out.blk rfl
  have d0 := cell_of_block (o := 0) HKd.out.blk rfl
  go_wp2_with fail
  refine (here_any HT16.out.code HVfin.out).mono ?_
  rintro e w17 ⟨rfl, own17, r1, r2, r3⟩
  generalize hec : c16.here fin = c17 at r1 r3
  have HT17 := hidI (HT16.out.next r1 r2)
  have HU17 := hidI (HU16.out.trans r2)
  have HL17 := hidI (Nat.le_trans HL16.out r3)
  replace HVrel := hidI (Nat.lt_of_lt_of_le HVrel.out r3)
  replace HVloop := hidI (Nat.lt_of_lt_of_le HVloop.out r3)
  replace HVnext := hidI (Nat.lt_of_lt_of_le HVnext.out r3)
  replace HVfin := hidI (Nat.lt_of_lt_of_le HVfin.out r3)
  replace HKa := hidI (HKa.out.turn r2)
  replace HKd := hidI (HKd.out.turn r2)
  have HC17 := hidI hec
  clear r1 r2 r3 hec x0 a0 d0
  have x0 := HT17.out.x0
  have a0 := cell_of_block (o := 0) HKa.out.blk rfl
  have d0 := cell_of_block (o := 0) HKd.out.blk rfl
  go_wp2_with fail
  go_end0
  have q1 := HC1.out
  have q2 := HC2.out
  have q3 := HC3.out
  have q4 := HC4.out
  have q5 := HC5.out
  have q6 := HC6.out
  have q7 := HC7.out
  have q8 := HC8.out
  have q9 := HC9.out
  have q10 := HC10.out
  have q11 := HC11.out
  have q12 := HC12.out
  have q13 := HC13.out
  have q14 := HC14.out
  have q15 := HC15.out
  have q16 := HC16.out
  have q17 := HC17.out
  have ploop := HFloop.out
  have pnext := HFnext.out
  have pfin := HFfin.out
  subst q1 q2 q3 q4 q5 q6 q7 q8 q9 q10 q11 q12 q13 q14 q15 q16 q17
  subst ploop pnext pfin
  exact ⟨rfl, own17, HT17.out, HU17.out, HL17.out⟩

def Cd.stripes_v (t : TxC) (rel : Nat) (c0 : Cd) : Cd :=
  let loop := c0.labs.length
  let c1 := c0.label
  let next := c1.labs.length
  let c2 := c1.label
  let fin := c2.labs.length
  let c3 := c2.label
  let c4 := c3.set 6 0
  let c5 := c4.here loop
  let c6 := c5.move 4 6
  let c7 := c6.with_ 13 4 16 3
  let c8 := c7.zero 4 fin
  let c9 := c8.get t 4 1
  let c10 := c9.calc 10 4 6
  let c11 := c10.with_ 6 4 1 3
  let c12 := c11.zero 4 next
  let c13 := c12.valid1 t rel
  let c14 := c13.here next
  let c15 := c14.with_ 1 6 1 3
  let c16 := c15.jump loop
  let c17 := c16.here fin
  c17
set_option maxRecDepth 100000 in
set_option maxHeartbeats 4000000 in
theorem txstripes_v_any {c0 : Cd} {rel : Nat} {ba : Nat} {bd : Nat} (h : TxAt w own br bc tv t c0 k) (ok : TxOk t) (hlrel : rel < c0.labs.length) (hka : Keep w own ba (.cells #[.pointer (some ⟨br, 0, none⟩)] 166 (0, 0))) (hkd : Keep w own bd (.cells #[.int .i64 (rel : Int)] 169 (0, 0))) (hk : k ≤ 1099509000000) :
    Calls Tryz.prog 132 #[.pointer (some ⟨br, 0, none⟩), .int .i64 1, .func (.func 165) #[] #[.pointer (some ⟨ba, 0, none⟩), .pointer (some ⟨bd, 0, none⟩)]] w (EmT own w br bc tv t c0 (c0.stripes_v t rel) (k + 14)) := by
  have HT0 := hidI h
  have OK := hidI ok
  have HK := hidI hk
  have HU0 := hidI (Turn.refl own w)
  have HL0 := hidI (Nat.le_refl c0.labs.length)
  have HVrel := hidI hlrel
  have HKa := hidI hka
  have HKd := hidI hkd
  have x0 := HT0.out.x0
  have a0 := cell_of_block (o := 0) HKa.out.blk rfl
  have d0 := cell_of_block (o := 0) HKd.out.blk rfl
  clear h ok hk hlrel hka hkd
  go_enter Tryz.func132, Tryz.ntmps132
  go_wp2_with fail
  go_region_held3 (fun w' => w'.cell? ⟨br, 0, none⟩ = some (.pointer (some ⟨bc, 0, none⟩)) ∧ w'.cell? ⟨ba, 0, none⟩ = some (.pointer (some ⟨br, 0, none⟩)) ∧ w'.cell? ⟨bd, 0, none⟩ = some (.int .i64 (rel : Int))) (refine ⟨?_, ?_, ?_⟩ <;> first | assumption | simp only [World.cell?_drew, *]) (first
    | (go_at_call 85; refine (label_any HT2.out.code (by have := HK.out; omega)).mono ?_; rintro e w3 ⟨rfl, own3, r1, r2, r3⟩; have r4 : c2.labs.length < (c2.label).labs.length := (by simp [Cd.label]); generalize hec : c2.label = c3 at r1 r3 r4; obtain ⟨fin, hf⟩ : ∃ x, x = c2.labs.length := ⟨_, rfl⟩; rw [← hf] at r4 ⊢; have HT3 := hidI (HT2.out.next r1 r2); have HU3 := hidI (HU2.out.trans r2); have HL3 := hidI (Nat.le_trans HL2.out r3); replace HVrel := hidI (Nat.lt_of_lt_of_le HVrel.out r3); replace HVloop := hidI (Nat.lt_of_lt_of_le HVloop.out r3); replace HVnext := hidI (Nat.lt_of_lt_of_le HVnext.out r3); replace HKa := hidI (HKa.out.turn r2); replace HKd := hidI (HKd.out.turn r2); have HVfin := hidI r4; have HFfin := hidI hf; have HC3 := hidI hec; clear r1 r2 r3 hec r4 hf x0 a0 d0; have x0 := HT3.out.x0; have a0 := cell_of_block (o := 0) HKa.out.blk rfl; have d0 := cell_of_block (o := 0) HKd.out.blk rfl)
    | (go_at_call 85; refine (label_any HT1.out.code (by have := HK.out; omega)).mono ?_; rintro e w2 ⟨rfl, own2, r1, r2, r3⟩; have r4 : c1.labs.length < (c1.label).labs.length := (by simp [Cd.label]); generalize hec : c1.label = c2 at r1 r3 r4; obtain ⟨next, hf⟩ : ∃ x, x = c1.labs.length := ⟨_, rfl⟩; rw [← hf] at r4 ⊢; have HT2 := hidI (HT1.out.next r1 r2); have HU2 := hidI (HU1.out.trans r2); have HL2 := hidI (Nat.le_trans HL1.out r3); replace HVrel := hidI (Nat.lt_of_lt_of_le HVrel.out r3); replace HVloop := hidI (Nat.lt_of_lt_of_le HVloop.out r3); replace HKa := hidI (HKa.out.turn r2); replace HKd := hidI (HKd.out.turn r2); have HVnext := hidI r4; have HFnext := hidI hf; have HC2 := hidI hec; clear r1 r2 r3 hec r4 hf x0 a0 d0; have x0 := HT2.out.x0; have a0 := cell_of_block (o := 0) HKa.out.blk rfl; have d0 := cell_of_block (o := 0) HKd.out.blk rfl)
    | (go_at_call 85; refine (label_any HT0.out.drew.code (by have := HK.out; omega)).mono ?_; rintro e w1 ⟨rfl, own1, r1, r2, r3⟩; have r4 : c0.labs.length < (c0.label).labs.length := (by simp [Cd.label]); generalize hec : c0.label = c1 at r1 r3 r4; obtain ⟨loop, hf⟩ : ∃ x, x = c0.labs.length := ⟨_, rfl⟩; rw [← hf] at r4 ⊢; have HT1 := hidI (HT0.out.drew.next r1 r2); have HU1 := hidI (HU0.out.drew.trans r2); have HL1 := hidI (Nat.le_trans HL0.out r3); replace HVrel := hidI (Nat.lt_of_lt_of_le HVrel.out r3); replace HKa := hidI (HKa.out.drew.turn r2); replace HKd := hidI (HKd.out.drew.turn r2); have HVloop := hidI r4; have HFloop := hidI hf; have HC1 := hidI hec; clear r1 r2 r3 hec r4 hf x0 a0 d0; have x0 := HT1.out.x0; have a0 := cell_of_block (o := 0) HKa.out.blk rfl; have d0 := cell_of_block (o := 0) HKd.out.blk rfl)
    )
  go_wp2_with fail
  refine (emset_any HT3.out.code 6 0).mono ?_
  rintro e w4 ⟨rfl, own4, r1, r2, r3⟩
  generalize hec : c3.set 6 0 = c4 at r1 r3
  have HT4 := hidI (HT3.out.next r1 r2)
  have HU4 := hidI (HU3.out.trans r2)
  have HL4 := hidI (Nat.le_trans HL3.out r3)
  replace HVrel := hidI (Nat.lt_of_lt_of_le HVrel.out r3)
  replace HVloop := hidI (Nat.lt_of_lt_of_le HVloop.out r3)
  replace HVnext := hidI (Nat.lt_of_lt_of_le HVnext.out r3)
  replace HVfin := hidI (Nat.lt_of_lt_of_le HVfin.out r3)
  replace HKa := hidI (HKa.out.turn r2)
  replace HKd := hidI (HKd.out.turn r2)
  have HC4 := hidI hec
  clear r1 r2 r3 hec x0 a0 d0
  have x0 := HT4.out.x0
  have a0 := cell_of_block (o := 0) HKa.out.blk rfl
  have d0 := cell_of_block (o := 0) HKd.out.blk rfl
  go_wp2_with fail
  refine (here_any HT4.out.code HVloop.out).mono ?_
  rintro e w5 ⟨rfl, own5, r1, r2, r3⟩
  generalize hec : c4.here loop = c5 at r1 r3
  have HT5 := hidI (HT4.out.next r1 r2)
  have HU5 := hidI (HU4.out.trans r2)
  have HL5 := hidI (Nat.le_trans HL4.out r3)
  replace HVrel := hidI (Nat.lt_of_lt_of_le HVrel.out r3)
  replace HVloop := hidI (Nat.lt_of_lt_of_le HVloop.out r3)
  replace HVnext := hidI (Nat.lt_of_lt_of_le HVnext.out r3)
  replace HVfin := hidI (Nat.lt_of_lt_of_le HVfin.out r3)
  replace HKa := hidI (HKa.out.turn r2)
  replace HKd := hidI (HKd.out.turn r2)
  have HC5 := hidI hec
  clear r1 r2 r3 hec x0 a0 d0
  have x0 := HT5.out.x0
  have a0 := cell_of_block (o := 0) HKa.out.blk rfl
  have d0 := cell_of_block (o := 0) HKd.out.blk rfl
  go_wp2_with fail
  refine (emmove_any HT5.out.code 4 6).mono ?_
  rintro e w6 ⟨rfl, own6, r1, r2, r3⟩
  generalize hec : c5.move 4 6 = c6 at r1 r3
  have HT6 := hidI (HT5.out.next r1 r2)
  have HU6 := hidI (HU5.out.trans r2)
  have HL6 := hidI (Nat.le_trans HL5.out r3)
  replace HVrel := hidI (Nat.lt_of_lt_of_le HVrel.out r3)
  replace HVloop := hidI (Nat.lt_of_lt_of_le HVloop.out r3)
  replace HVnext := hidI (Nat.lt_of_lt_of_le HVnext.out r3)
  replace HVfin := hidI (Nat.lt_of_lt_of_le HVfin.out r3)
  replace HKa := hidI (HKa.out.turn r2)
  replace HKd := hidI (HKd.out.turn r2)
  have HC6 := hidI hec
  clear r1 r2 r3 hec x0 a0 d0
  have x0 := HT6.out.x0
  have a0 := cell_of_block (o := 0) HKa.out.blk rfl
  have d0 := cell_of_block (o := 0) HKd.out.blk rfl
  go_wp2_with fail
  refine (emwith_any HT6.out.code 13 4 16 3).mono ?_
  rintro e w7 ⟨rfl, own7, r1, r2, r3⟩
  generalize hec : c6.with_ 13 4 16 3 = c7 at r1 r3
  have HT7 := hidI (HT6.out.next r1 r2)
  have HU7 := hidI (HU6.out.trans r2)
  have HL7 := hidI (Nat.le_trans HL6.out r3)
  replace HVrel := hidI (Nat.lt_of_lt_of_le HVrel.out r3)
  replace HVloop := hidI (Nat.lt_of_lt_of_le HVloop.out r3)
  replace HVnext := hidI (Nat.lt_of_lt_of_le HVnext.out r3)
  replace HVfin := hidI (Nat.lt_of_lt_of_le HVfin.out r3)
  replace HKa := hidI (HKa.out.turn r2)
  replace HKd := hidI (HKd.out.turn r2)
  have HC7 := hidI hec
  clear r1 r2 r3 hec x0 a0 d0
  have x0 := HT7.out.x0
  have a0 := cell_of_block (o := 0) HKa.out.blk rfl
  have d0 := cell_of_block (o := 0) HKd.out.blk rfl
  go_wp2_with fail
  refine (zero_any HT7.out.code 4 HVfin.out (by have := HK.out; omega)).mono ?_
  rintro e w8 ⟨rfl, own8, r1, r2, r3⟩
  generalize hec : c7.zero 4 fin = c8 at r1 r3
  have HT8 := hidI (HT7.out.next r1 r2)
  have HU8 := hidI (HU7.out.trans r2)
  have HL8 := hidI (Nat.le_trans HL7.out r3)
  replace HVrel := hidI (Nat.lt_of_lt_of_le HVrel.out r3)
  replace HVloop := hidI (Nat.lt_of_lt_of_le HVloop.out r3)
  replace HVnext := hidI (Nat.lt_of_lt_of_le HVnext.out r3)
  replace HVfin := hidI (Nat.lt_of_lt_of_le HVfin.out r3)
  replace HKa := hidI (HKa.out.turn r2)
  replace HKd := hidI (HKd.out.turn r2)
  have HC8 := hidI hec
  clear r1 r2 r3 hec x0 a0 d0
  have x0 := HT8.out.x0
  have a0 := cell_of_block (o := 0) HKa.out.blk rfl
  have d0 := cell_of_block (o := 0) HKd.out.blk rfl
  go_wp2_with fail
  refine (txget_any HT8.out OK.out 4 1 (by decide)).mono ?_
  rintro e w9 ⟨rfl, own9, r1, r2, r3⟩
  generalize hec : c8.get t 4 1 = c9 at r1 r3
  have HT9 := hidI (r1)
  have HU9 := hidI (HU8.out.trans r2)
  have HL9 := hidI (Nat.le_trans HL8.out r3)
  replace HVrel := hidI (Nat.lt_of_lt_of_le HVrel.out r3)
  replace HVloop := hidI (Nat.lt_of_lt_of_le HVloop.out r3)
  replace HVnext := hidI (Nat.lt_of_lt_of_le HVnext.out r3)
  replace HVfin := hidI (Nat.lt_of_lt_of_le HVfin.out r3)
  replace HKa := hidI (HKa.out.turn r2)
  replace HKd := hidI (HKd.out.turn r2)
  have HC9 := hidI hec
  clear r1 r2 r3 hec x0 a0 d0
  have x0 := HT9.out.x0
  have a0 := cell_of_block (o := 0) HKa.out.blk rfl
  have d0 := cell_of_block (o := 0) HKd.out.blk rfl
  go_wp2_with fail
  refine (emcalc_any HT9.out.code 10 4 6).mono ?_
  rintro e w10 ⟨rfl, own10, r1, r2, r3⟩
  generalize hec : c9.calc 10 4 6 = c10 at r1 r3
  have HT10 := hidI (HT9.out.next r1 r2)
  have HU10 := hidI (HU9.out.trans r2)
  have HL10 := hidI (Nat.le_trans HL9.out r3)
  replace HVrel := hidI (Nat.lt_of_lt_of_le HVrel.out r3)
  replace HVloop := hidI (Nat.lt_of_lt_of_le HVloop.out r3)
  replace HVnext := hidI (Nat.lt_of_lt_of_le HVnext.out r3)
  replace HVfin := hidI (Nat.lt_of_lt_of_le HVfin.out r3)
  replace HKa := hidI (HKa.out.turn r2)
  replace HKd := hidI (HKd.out.turn r2)
  have HC10 := hidI hec
  clear r1 r2 r3 hec x0 a0 d0
  have x0 := HT10.out.x0
  have a0 := cell_of_block (o := 0) HKa.out.blk rfl
  have d0 := cell_of_block (o := 0) HKd.out.blk rfl
  go_wp2_with fail
  refine (emwith_any HT10.out.code 6 4 1 3).mono ?_
  rintro e w11 ⟨rfl, own11, r1, r2, r3⟩
  generalize hec : c10.with_ 6 4 1 3 = c11 at r1 r3
  have HT11 := hidI (HT10.out.next r1 r2)
  have HU11 := hidI (HU10.out.trans r2)
  have HL11 := hidI (Nat.le_trans HL10.out r3)
  replace HVrel := hidI (Nat.lt_of_lt_of_le HVrel.out r3)
  replace HVloop := hidI (Nat.lt_of_lt_of_le HVloop.out r3)
  replace HVnext := hidI (Nat.lt_of_lt_of_le HVnext.out r3)
  replace HVfin := hidI (Nat.lt_of_lt_of_le HVfin.out r3)
  replace HKa := hidI (HKa.out.turn r2)
  replace HKd := hidI (HKd.out.turn r2)
  have HC11 := hidI hec
  clear r1 r2 r3 hec x0 a0 d0
  have x0 := HT11.out.x0
  have a0 := cell_of_block (o := 0) HKa.out.blk rfl
  have d0 := cell_of_block (o := 0) HKd.out.blk rfl
  go_wp2_with fail
  refine (zero_any HT11.out.code 4 HVnext.out (by have := HK.out; omega)).mono ?_
  rintro e w12 ⟨rfl, own12, r1, r2, r3⟩
  generalize hec : c11.zero 4 next = c12 at r1 r3
  have HT12 := hidI (HT11.out.next r1 r2)
  have HU12 := hidI (HU11.out.trans r2)
  have HL12 := hidI (Nat.le_trans HL11.out r3)
  replace HVrel := hidI (Nat.lt_of_lt_of_le HVrel.out r3)
  replace HVloop := hidI (Nat.lt_of_lt_of_le HVloop.out r3)
  replace HVnext := hidI (Nat.lt_of_lt_of_le HVnext.out r3)
  replace HVfin := hidI (Nat.lt_of_lt_of_le HVfin.out r3)
  replace HKa := hidI (HKa.out.turn r2)
  replace HKd := hidI (HKd.out.turn r2)
  have HC12 := hidI hec
  clear r1 r2 r3 hec x0 a0 d0
  have x0 := HT12.out.x0
  have a0 := cell_of_block (o := 0) HKa.out.blk rfl
  have d0 := cell_of_block (o := 0) HKd.out.blk rfl
  go_wp2_with fail
  refine (txvalid1_any HT12.out OK.out HVrel.out HKa.out HKd.out (by have := HK.out; omega)).mono ?_
  rintro e w13 ⟨rfl, own13, r1, r2, r3⟩
  generalize hec : c12.valid1 t rel = c13 at r1 r3
  have HT13 := hidI (r1)
  have HU13 := hidI (HU12.out.trans r2)
  have HL13 := hidI (Nat.le_trans HL12.out r3)
  replace HVrel := hidI (Nat.lt_of_lt_of_le HVrel.out r3)
  replace HVloop := hidI (Nat.lt_of_lt_of_le HVloop.out r3)
  replace HVnext := hidI (Nat.lt_of_lt_of_le HVnext.out r3)
  replace HVfin := hidI (Nat.lt_of_lt_of_le HVfin.out r3)
  replace HKa := hidI (HKa.out.turn r2)
  replace HKd := hidI (HKd.out.turn r2)
  have HC13 := hidI hec
  clear r1 r2 r3 hec x0 a0 d0
  have x0 := HT13.out.x0
  have a0 := cell_of_block (o := 0) HKa.out.blk rfl
  have d0 := cell_of_block (o := 0) HKd.out.blk rfl
  go_wp2_with fail
  refine (here_any HT13.out.code HVnext.out).mono ?_
  rintro e w14 ⟨rfl, own14, r1, r2, r3⟩
  generalize hec : c13.here next = c14 at r1 r3
  have HT14 := hidI (HT13.out.next r1 r2)
  have HU14 := hidI (HU13.out.trans r2)
  have HL14 := hidI (Nat.le_trans HL13.out r3)
  replace HVrel := hidI (Nat.lt_of_lt_of_le HVrel.out r3)
  replace HVloop := hidI (Nat.lt_of_lt_of_le HVloop.out r3)
  replace HVnext := hidI (Nat.lt_of_lt_of_le HVnext.out r3)
  replace HVfin := hidI (Nat.lt_of_lt_of_le HVfin.out r3)
  replace HKa := hidI (HKa.out.turn r2)
  replace HKd := hidI (HKd.out.turn r2)
  have HC14 := hidI hec
  clear r1 r2 r3 hec x0 a0 d0
  have x0 := HT14.out.x0
  have a0 := cell_of_block (o := 0) HKa.out.blk rfl
  have d0 := cell_of_block (o := 0) HKd.out.blk rfl
  go_wp2_with fail
  refine (emwith_any HT14.out.code 1 6 1 3).mono ?_
  rintro e w15 ⟨rfl, own15, r1, r2, r3⟩
  generalize hec : c14.with_ 1 6 1 3 = c15 at r1 r3
  have HT15 := hidI (HT14.out.next r1 r2)
  have HU15 := hidI (HU14.out.trans r2)
  have HL15 := hidI (Nat.le_trans HL14.out r3)
  replace HVrel := hidI (Nat.lt_of_lt_of_le HVrel.out r3)
  replace HVloop := hidI (Nat.lt_of_lt_of_le HVloop.out r3)
  replace HVnext := hidI (Nat.lt_of_lt_of_le HVnext.out r3)
  replace HVfin := hidI (Nat.lt_of_lt_of_le HVfin.out r3)
  replace HKa := hidI (HKa.out.turn r2)
  replace HKd := hidI (HKd.out.turn r2)
  have HC15 := hidI hec
  clear r1 r2 r3 hec x0 a0 d0
  have x0 := HT15.out.x0
  have a0 := cell_of_block (o := 0) HKa.out.blk rfl
  have d0 := cell_of_block (o := 0) HKd.out.blk rfl
  go_wp2_with fail
  refine (jump_any HT15.out.code HVloop.out (by have := HK.out; omega)).mono ?_
  rintro e w16 ⟨rfl, own16, r1, r2, r3⟩
  generalize hec : c15.jump loop = c16 at r1 r3
  have HT16 := hidI (HT15.out.next r1 r2)
  have HU16 := hidI (HU15.out.trans r2)
  have HL16 := hidI (Nat.le_trans HL15.out r3)
  replace HVrel := hidI (Nat.lt_of_lt_of_le HVrel.out r3)
  replace HVloop := hidI (Nat.lt_of_lt_of_le HVloop.out r3)
  replace HVnext := hidI (Nat.lt_of_lt_of_le HVnext.out r3)
  replace HVfin := hidI (Nat.lt_of_lt_of_le HVfin.out r3)
  replace HKa := hidI (HKa.out.turn r2)
  replace HKd := hidI (HKd.out.turn r2)
  have HC16 := hidI hec
  clear r1 r2 r3 hec x0 a0 d0
  have x0 := HT16.out.x0
  have a0 := cell_of_block (o := 0) HKa.out.blk rfl
  have d0 := cell_of_block (o := 0) HKd.out.blk rfl
  go_wp2_with fail
  refine (here_any HT16.out.code HVfin.out).mono ?_
  rintro e w17 ⟨rfl, own17, r1, r2, r3⟩
  generalize hec : c16.here fin = c17 at r1 r3
  have HT17 := hidI (HT16.out.next r1 r2)
  have HU17 := hidI (HU16.out.trans r2)
  have HL17 := hidI (Nat.le_trans HL16.out r3)
  replace HVrel := hidI (Nat.lt_of_lt_of_le HVrel.out r3)
  replace HVloop := hidI (Nat.lt_of_lt_of_le HVloop.out r3)
  replace HVnext := hidI (Nat.lt_of_lt_of_le HVnext.out r3)
  replace HVfin := hidI (Nat.lt_of_lt_of_le HVfin.out r3)
  replace HKa := hidI (HKa.out.turn r2)
  replace HKd := hidI (HKd.out.turn r2)
  have HC17 := hidI hec
  clear r1 r2 r3 hec x0 a0 d0
  have x0 := HT17.out.x0
  have a0 := cell_of_block (o := 0) HKa.out.blk rfl
  have d0 := cell_of_block (o := 0) HKd.out.blk rfl
  go_wp2_with fail
  go_end0
  have q1 := HC1.out
  have q2 := HC2.out
  have q3 := HC3.out
  have q4 := HC4.out
  have q5 := HC5.out
  have q6 := HC6.out
  have q7 := HC7.out
  have q8 := HC8.out
  have q9 := HC9.out
  have q10 := HC10.out
  have q11 := HC11.out
  have q12 := HC12.out
  have q13 := HC13.out
  have q14 := HC14.out
  have q15 := HC15.out
  have q16 := HC16.out
  have q17 := HC17.out
  have ploop := HFloop.out
  have pnext := HFnext.out
  have pfin := HFfin.out
  subst q1 q2 q3 q4 q5 q6 q7 q8 q9 q10 q11 q12 q13 q14 q15 q16 q17
  subst ploop pnext pfin
  exact ⟨rfl, own17, HT17.out, HU17.out, HL17.out⟩

def Cd.stripes_u (t : TxC) (c0 : Cd) : Cd :=
  let loop := c0.labs.length
  let c1 := c0.label
  let next := c1.labs.length
  let c2 := c1.label
  let fin := c2.labs.length
  let c3 := c2.label
  let c4 := c3.set 6 0
  let c5 := c4.here loop
  let c6 := c5.move 4 6
  let c7 := c6.with_ 13 4 16 3
  let c8 := c7.zero 4 fin
  let c9 := c8.get t 4 6
  let c10 := c9.calc 10 4 6
  let c11 := c10.with_ 6 4 1 3
  let c12 := c11.zero 4 next
  let c13 := c12.commit2 t
  let c14 := c13.here next
  let c15 := c14.with_ 1 6 1 3
  let c16 := c15.jump loop
  let c17 := c16.here fin
  c17
set_option maxRecDepth 100000 in
set_option maxHeartbeats 4000000 in
theorem txstripes_u_any {c0 : Cd} {ba : Nat} (h : TxAt w own br bc tv t c0 k) (ok : TxOk t) (hka : Keep w own ba (.cells #[.pointer (some ⟨br, 0, none⟩)] 166 (0, 0))) (hk : k ≤ 1099509000000) :
    Calls Tryz.prog 132 #[.pointer (some ⟨br, 0, none⟩), .int .i64 6, .func (.func 133) #[] #[.pointer (some ⟨ba, 0, none⟩)]] w (EmT own w br bc tv t c0 (c0.stripes_u t) (k + 6)) := by
  have HT0 := hidI h
  have OK := hidI ok
  have HK := hidI hk
  have HU0 := hidI (Turn.refl own w)
  have HL0 := hidI (Nat.le_refl c0.labs.length)
  have HKa := hidI hka
  have x0 := HT0.out.x0
  have a0 := cell_of_block (o := 0) HKa.out.blk rfl
  clear h ok hk hka
  go_enter Tryz.func132, Tryz.ntmps132
  go_wp2_with fail
  go_region_held3 (fun w' => w'.cell? ⟨br, 0, none⟩ = some (.pointer (some ⟨bc, 0, none⟩)) ∧ w'.cell? ⟨ba, 0, none⟩ = some (.pointer (some ⟨br, 0, none⟩))) (refine ⟨?_, ?_⟩ <;> first | assumption | simp only [World.cell?_drew, *]) (first
    | (go_at_call 85; refine (label_any HT2.out.code (by have := HK.out; omega)).mono ?_; rintro e w3 ⟨rfl, own3, r1, r2, r3⟩; have r4 : c2.labs.length < (c2.label).labs.length := (by simp [Cd.label]); generalize hec : c2.label = c3 at r1 r3 r4; obtain ⟨fin, hf⟩ : ∃ x, x = c2.labs.length := ⟨_, rfl⟩; rw [← hf] at r4 ⊢; have HT3 := hidI (HT2.out.next r1 r2); have HU3 := hidI (HU2.out.trans r2); have HL3 := hidI (Nat.le_trans HL2.out r3); replace HVloop := hidI (Nat.lt_of_lt_of_le HVloop.out r3); replace HVnext := hidI (Nat.lt_of_lt_of_le HVnext.out r3); replace HKa := hidI (HKa.out.turn r2); have HVfin := hidI r4; have HFfin := hidI hf; have HC3 := hidI hec; clear r1 r2 r3 hec r4 hf x0 a0; have x0 := HT3.out.x0; have a0 := cell_of_block (o := 0) HKa.out.blk rfl)
    | (go_at_call 85; refine (label_any HT1.out.code (by have := HK.out; omega)).mono ?_; rintro e w2 ⟨rfl, own2, r1, r2, r3⟩; have r4 : c1.labs.length < (c1.label).labs.length := (by simp [Cd.label]); generalize hec : c1.label = c2 at r1 r3 r4; obtain ⟨next, hf⟩ : ∃ x, x = c1.labs.length := ⟨_, rfl⟩; rw [← hf] at r4 ⊢; have HT2 := hidI (HT1.out.next r1 r2); have HU2 := hidI (HU1.out.trans r2); have HL2 := hidI (Nat.le_trans HL1.out r3); replace HVloop := hidI (Nat.lt_of_lt_of_le HVloop.out r3); replace HKa := hidI (HKa.out.turn r2); have HVnext := hidI r4; have HFnext := hidI hf; have HC2 := hidI hec; clear r1 r2 r3 hec r4 hf x0 a0; have x0 := HT2.out.x0; have a0 := cell_of_block (o := 0) HKa.out.blk rfl)
    | (go_at_call 85; refine (label_any HT0.out.drew.code (by have := HK.out; omega)).mono ?_; rintro e w1 ⟨rfl, own1, r1, r2, r3⟩; have r4 : c0.labs.length < (c0.label).labs.length := (by simp [Cd.label]); generalize hec : c0.label = c1 at r1 r3 r4; obtain ⟨loop, hf⟩ : ∃ x, x = c0.labs.length := ⟨_, rfl⟩; rw [← hf] at r4 ⊢; have HT1 := hidI (HT0.out.drew.next r1 r2); have HU1 := hidI (HU0.out.drew.trans r2); have HL1 := hidI (Nat.le_trans HL0.out r3); replace HKa := hidI (HKa.out.drew.turn r2); have HVloop := hidI r4; have HFloop := hidI hf; have HC1 := hidI hec; clear r1 r2 r3 hec r4 hf x0 a0; have x0 := HT1.out.x0; have a0 := cell_of_block (o := 0) HKa.out.blk rfl)
    )
  go_wp2_with fail
  refine (emset_any HT3.out.code 6 0).mono ?_
  rintro e w4 ⟨rfl, own4, r1, r2, r3⟩
  generalize hec : c3.set 6 0 = c4 at r1 r3
  have HT4 := hidI (HT3.out.next r1 r2)
  have HU4 := hidI (HU3.out.trans r2)
  have HL4 := hidI (Nat.le_trans HL3.out r3)
  replace HVloop := hidI (Nat.lt_of_lt_of_le HVloop.out r3)
  replace HVnext := hidI (Nat.lt_of_lt_of_le HVnext.out r3)
  replace HVfin := hidI (Nat.lt_of_lt_of_le HVfin.out r3)
  replace HKa := hidI (HKa.out.turn r2)
  have HC4 := hidI hec
  clear r1 r2 r3 hec x0 a0
  have x0 := HT4.out.x0
  have a0 := cell_of_block (o := 0) HKa.out.blk rfl
  go_wp2_with fail
  refine (here_any HT4.out.code HVloop.out).mono ?_
  rintro e w5 ⟨rfl, own5, r1, r2, r3⟩
  generalize hec : c4.here loop = c5 at r1 r3
  have HT5 := hidI (HT4.out.next r1 r2)
  have HU5 := hidI (HU4.out.trans r2)
  have HL5 := hidI (Nat.le_trans HL4.out r3)
  replace HVloop := hidI (Nat.lt_of_lt_of_le HVloop.out r3)
  replace HVnext := hidI (Nat.lt_of_lt_of_le HVnext.out r3)
  replace HVfin := hidI (Nat.lt_of_lt_of_le HVfin.out r3)
  replace HKa := hidI (HKa.out.turn r2)
  have HC5 := hidI hec
  clear r1 r2 r3 hec x0 a0
  have x0 := HT5.out.x0
  have a0 := cell_of_block (o := 0) HKa.out.blk rfl
  go_wp2_with fail
  refine (emmove_any HT5.out.code 4 6).mono ?_
  rintro e w6 ⟨rfl, own6, r1, r2, r3⟩
  generalize hec : c5.move 4 6 = c6 at r1 r3
  have HT6 := hidI (HT5.out.next r1 r2)
  have HU6 := hidI (HU5.out.trans r2)
  have HL6 := hidI (Nat.le_trans HL5.out r3)
  replace HVloop := hidI (Nat.lt_of_lt_of_le HVloop.out r3)
  replace HVnext := hidI (Nat.lt_of_lt_of_le HVnext.out r3)
  replace HVfin := hidI (Nat.lt_of_lt_of_le HVfin.out r3)
  replace HKa := hidI (HKa.out.turn r2)
  have HC6 := hidI hec
  clear r1 r2 r3 hec x0 a0
  have x0 := HT6.out.x0
  have a0 := cell_of_block (o := 0) HKa.out.blk rfl
  go_wp2_with fail
  refine (emwith_any HT6.out.code 13 4 16 3).mono ?_
  rintro e w7 ⟨rfl, own7, r1, r2, r3⟩
  generalize hec : c6.with_ 13 4 16 3 = c7 at r1 r3
  have HT7 := hidI (HT6.out.next r1 r2)
  have HU7 := hidI (HU6.out.trans r2)
  have HL7 := hidI (Nat.le_trans HL6.out r3)
  replace HVloop := hidI (Nat.lt_of_lt_of_le HVloop.out r3)
  replace HVnext := hidI (Nat.lt_of_lt_of_le HVnext.out r3)
  replace HVfin := hidI (Nat.lt_of_lt_of_le HVfin.out r3)
  replace HKa := hidI (HKa.out.turn r2)
  have HC7 := hidI hec
  clear r1 r2 r3 hec x0 a0
  have x0 := HT7.out.x0
  have a0 := cell_of_block (o := 0) HKa.out.blk rfl
  go_wp2_with fail
  refine (zero_any HT7.out.code 4 HVfin.out (by have := HK.out; omega)).mono ?_
  rintro e w8 ⟨rfl, own8, r1, r2, r3⟩
  generalize hec : c7.zero 4 fin = c8 at r1 r3
  have HT8 := hidI (HT7.out.next r1 r2)
  have HU8 := hidI (HU7.out.trans r2)
  have HL8 := hidI (Nat.le_trans HL7.out r3)
  replace HVloop := hidI (Nat.lt_of_lt_of_le HVloop.out r3)
  replace HVnext := hidI (Nat.lt_of_lt_of_le HVnext.out r3)
  replace HVfin := hidI (Nat.lt_of_lt_of_le HVfin.out r3)
  replace HKa := hidI (HKa.out.turn r2)
  have HC8 := hidI hec
  clear r1 r2 r3 hec x0 a0
  have x0 := HT8.out.x0
  have a0 := cell_of_block (o := 0) HKa.out.blk rfl
  go_wp2_with fail
  refine (txget_any HT8.out OK.out 4 6 (by decide)).mono ?_
  rintro e w9 ⟨rfl, own9, r1, r2, r3⟩
  generalize hec : c8.get t 4 6 = c9 at r1 r3
  have HT9 := hidI (r1)
  have HU9 := hidI (HU8.out.trans r2)
  have HL9 := hidI (Nat.le_trans HL8.out r3)
  replace HVloop := hidI (Nat.lt_of_lt_of_le HVloop.out r3)
  replace HVnext := hidI (Nat.lt_of_lt_of_le HVnext.out r3)
  replace HVfin := hidI (Nat.lt_of_lt_of_le HVfin.out r3)
  replace HKa := hidI (HKa.out.turn r2)
  have HC9 := hidI hec
  clear r1 r2 r3 hec x0 a0
  have x0 := HT9.out.x0
  have a0 := cell_of_block (o := 0) HKa.out.blk rfl
  go_wp2_with fail
  refine (emcalc_any HT9.out.code 10 4 6).mono ?_
  rintro e w10 ⟨rfl, own10, r1, r2, r3⟩
  generalize hec : c9.calc 10 4 6 = c10 at r1 r3
  have HT10 := hidI (HT9.out.next r1 r2)
  have HU10 := hidI (HU9.out.trans r2)
  have HL10 := hidI (Nat.le_trans HL9.out r3)
  replace HVloop := hidI (Nat.lt_of_lt_of_le HVloop.out r3)
  replace HVnext := hidI (Nat.lt_of_lt_of_le HVnext.out r3)
  replace HVfin := hidI (Nat.lt_of_lt_of_le HVfin.out r3)
  replace HKa := hidI (HKa.out.turn r2)
  have HC10 := hidI hec
  clear r1 r2 r3 hec x0 a0
  have x0 := HT10.out.x0
  have a0 := cell_of_block (o := 0) HKa.out.blk rfl
  go_wp2_with fail
  refine (emwith_any HT10.out.code 6 4 1 3).mono ?_
  rintro e w11 ⟨rfl, own11, r1, r2, r3⟩
  generalize hec : c10.with_ 6 4 1 3 = c11 at r1 r3
  have HT11 := hidI (HT10.out.next r1 r2)
  have HU11 := hidI (HU10.out.trans r2)
  have HL11 := hidI (Nat.le_trans HL10.out r3)
  replace HVloop := hidI (Nat.lt_of_lt_of_le HVloop.out r3)
  replace HVnext := hidI (Nat.lt_of_lt_of_le HVnext.out r3)
  replace HVfin := hidI (Nat.lt_of_lt_of_le HVfin.out r3)
  replace HKa := hidI (HKa.out.turn r2)
  have HC11 := hidI hec
  clear r1 r2 r3 hec x0 a0
  have x0 := HT11.out.x0
  have a0 := cell_of_block (o := 0) HKa.out.blk rfl
  go_wp2_with fail
  refine (zero_any HT11.out.code 4 HVnext.out (by have := HK.out; omega)).mono ?_
  rintro e w12 ⟨rfl, own12, r1, r2, r3⟩
  generalize hec : c11.zero 4 next = c12 at r1 r3
  have HT12 := hidI (HT11.out.next r1 r2)
  have HU12 := hidI (HU11.out.trans r2)
  have HL12 := hidI (Nat.le_trans HL11.out r3)
  replace HVloop := hidI (Nat.lt_of_lt_of_le HVloop.out r3)
  replace HVnext := hidI (Nat.lt_of_lt_of_le HVnext.out r3)
  replace HVfin := hidI (Nat.lt_of_lt_of_le HVfin.out r3)
  replace HKa := hidI (HKa.out.turn r2)
  have HC12 := hidI hec
  clear r1 r2 r3 hec x0 a0
  have x0 := HT12.out.x0
  have a0 := cell_of_block (o := 0) HKa.out.blk rfl
  go_wp2_with fail
  refine (txcommit2_any HT12.out OK.out  HKa.out (by have := HK.out; omega)).mono ?_
  rintro e w13 ⟨rfl, own13, r1, r2, r3⟩
  generalize hec : c12.commit2 t = c13 at r1 r3
  have HT13 := hidI (r1)
  have HU13 := hidI (HU12.out.trans r2)
  have HL13 := hidI (Nat.le_trans HL12.out r3)
  replace HVloop := hidI (Nat.lt_of_lt_of_le HVloop.out r3)
  replace HVnext := hidI (Nat.lt_of_lt_of_le HVnext.out r3)
  replace HVfin := hidI (Nat.lt_of_lt_of_le HVfin.out r3)
  replace HKa := hidI (HKa.out.turn r2)
  have HC13 := hidI hec
  clear r1 r2 r3 hec x0 a0
  have x0 := HT13.out.x0
  have a0 := cell_of_block (o := 0) HKa.out.blk rfl
  go_wp2_with fail
  refine (here_any HT13.out.code HVnext.out).mono ?_
  rintro e w14 ⟨rfl, own14, r1, r2, r3⟩
  generalize hec : c13.here next = c14 at r1 r3
  have HT14 := hidI (HT13.out.next r1 r2)
  have HU14 := hidI (HU13.out.trans r2)
  have HL14 := hidI (Nat.le_trans HL13.out r3)
  replace HVloop := hidI (Nat.lt_of_lt_of_le HVloop.out r3)
  replace HVnext := hidI (Nat.lt_of_lt_of_le HVnext.out r3)
  replace HVfin := hidI (Nat.lt_of_lt_of_le HVfin.out r3)
  replace HKa := hidI (HKa.out.turn r2)
  have HC14 := hidI hec
  clear r1 r2 r3 hec x0 a0
  have x0 := HT14.out.x0
  have a0 := cell_of_block (o := 0) HKa.out.blk rfl
  go_wp2_with fail
  refine (emwith_any HT14.out.code 1 6 1 3).mono ?_
  rintro e w15 ⟨rfl, own15, r1, r2, r3⟩
  generalize hec : c14.with_ 1 6 1 3 = c15 at r1 r3
  have HT15 := hidI (HT14.out.next r1 r2)
  have HU15 := hidI (HU14.out.trans r2)
  have HL15 := hidI (Nat.le_trans HL14.out r3)
  replace HVloop := hidI (Nat.lt_of_lt_of_le HVloop.out r3)
  replace HVnext := hidI (Nat.lt_of_lt_of_le HVnext.out r3)
  replace HVfin := hidI (Nat.lt_of_lt_of_le HVfin.out r3)
  replace HKa := hidI (HKa.out.turn r2)
  have HC15 := hidI hec
  clear r1 r2 r3 hec x0 a0
  have x0 := HT15.out.x0
  have a0 := cell_of_block (o := 0) HKa.out.blk rfl
  go_wp2_with fail
  refine (jump_any HT15.out.code HVloop.out (by have := HK.out; omega)).mono ?_
  rintro e w16 ⟨rfl, own16, r1, r2, r3⟩
  generalize hec : c15.jump loop = c16 at r1 r3
  have HT16 := hidI (HT15.out.next r1 r2)
  have HU16 := hidI (HU15.out.trans r2)
  have HL16 := hidI (Nat.le_trans HL15.out r3)
  replace HVloop := hidI (Nat.lt_of_lt_of_le HVloop.out r3)
  replace HVnext := hidI (Nat.lt_of_lt_of_le HVnext.out r3)
  replace HVfin := hidI (Nat.lt_of_lt_of_le HVfin.out r3)
  replace HKa := hidI (HKa.out.turn r2)
  have HC16 := hidI hec
  clear r1 r2 r3 hec x0 a0
  have x0 := HT16.out.x0
  have a0 := cell_of_block (o := 0) HKa.out.blk rfl
  go_wp2_with fail
  refine (here_any HT16.out.code HVfin.out).mono ?_
  rintro e w17 ⟨rfl, own17, r1, r2, r3⟩
  generalize hec : c16.here fin = c17 at r1 r3
  have HT17 := hidI (HT16.out.next r1 r2)
  have HU17 := hidI (HU16.out.trans r2)
  have HL17 := hidI (Nat.le_trans HL16.out r3)
  replace HVloop := hidI (Nat.lt_of_lt_of_le HVloop.out r3)
  replace HVnext := hidI (Nat.lt_of_lt_of_le HVnext.out r3)
  replace HVfin := hidI (Nat.lt_of_lt_of_le HVfin.out r3)
  replace HKa := hidI (HKa.out.turn r2)
  have HC17 := hidI hec
  clear r1 r2 r3 hec x0 a0
  have x0 := HT17.out.x0
  have a0 := cell_of_block (o := 0) HKa.out.blk rfl
  go_wp2_with fail
  go_end0
  have q1 := HC1.out
  have q2 := HC2.out
  have q3 := HC3.out
  have q4 := HC4.out
  have q5 := HC5.out
  have q6 := HC6.out
  have q7 := HC7.out
  have q8 := HC8.out
  have q9 := HC9.out
  have q10 := HC10.out
  have q11 := HC11.out
  have q12 := HC12.out
  have q13 := HC13.out
  have q14 := HC14.out
  have q15 := HC15.out
  have q16 := HC16.out
  have q17 := HC17.out
  have ploop := HFloop.out
  have pnext := HFnext.out
  have pfin := HFfin.out
  subst q1 q2 q3 q4 q5 q6 q7 q8 q9 q10 q11 q12 q13 q14 q15 q16 q17
  subst ploop pnext pfin
  exact ⟨rfl, own17, HT17.out, HU17.out, HL17.out⟩

def Cd.stripes_r (t : TxC) (c0 : Cd) : Cd :=
  let loop := c0.labs.length
  let c1 := c0.label
  let next := c1.labs.length
  let c2 := c1.label
  let fin := c2.labs.length
  let c3 := c2.label
  let c4 := c3.set 6 0
  let c5 := c4.here loop
  let c6 := c5.move 4 6
  let c7 := c6.with_ 13 4 16 3
  let c8 := c7.zero 4 fin
  let c9 := c8.get t 4 6
  let c10 := c9.calc 10 4 6
  let c11 := c10.with_ 6 4 1 3
  let c12 := c11.zero 4 next
  let c13 := c12.commit3 t
  let c14 := c13.here next
  let c15 := c14.with_ 1 6 1 3
  let c16 := c15.jump loop
  let c17 := c16.here fin
  c17
set_option maxRecDepth 100000 in
set_option maxHeartbeats 4000000 in
theorem txstripes_r_any {c0 : Cd} {ba : Nat} (h : TxAt w own br bc tv t c0 k) (ok : TxOk t) (hka : Keep w own ba (.cells #[.pointer (some ⟨br, 0, none⟩)] 166 (0, 0))) (hk : k ≤ 1099509000000) :
    Calls Tryz.prog 132 #[.pointer (some ⟨br, 0, none⟩), .int .i64 6, .func (.func 135) #[] #[.pointer (some ⟨ba, 0, none⟩)]] w (EmT own w br bc tv t c0 (c0.stripes_r t) (k + 6)) := by
  have HT0 := hidI h
  have OK := hidI ok
  have HK := hidI hk
  have HU0 := hidI (Turn.refl own w)
  have HL0 := hidI (Nat.le_refl c0.labs.length)
  have HKa := hidI hka
  have x0 := HT0.out.x0
  have a0 := cell_of_block (o := 0) HKa.out.blk rfl
  clear h ok hk hka
  go_enter Tryz.func132, Tryz.ntmps132
  go_wp2_with fail
  go_region_held3 (fun w' => w'.cell? ⟨br, 0, none⟩ = some (.pointer (some ⟨bc, 0, none⟩)) ∧ w'.cell? ⟨ba, 0, none⟩ = some (.pointer (some ⟨br, 0, none⟩))) (refine ⟨?_, ?_⟩ <;> first | assumption | simp only [World.cell?_drew, *]) (first
    | (go_at_call 85; refine (label_any HT2.out.code (by have := HK.out; omega)).mono ?_; rintro e w3 ⟨rfl, own3, r1, r2, r3⟩; have r4 : c2.labs.length < (c2.label).labs.length := (by simp [Cd.label]); generalize hec : c2.label = c3 at r1 r3 r4; obtain ⟨fin, hf⟩ : ∃ x, x = c2.labs.length := ⟨_, rfl⟩; rw [← hf] at r4 ⊢; have HT3 := hidI (HT2.out.next r1 r2); have HU3 := hidI (HU2.out.trans r2); have HL3 := hidI (Nat.le_trans HL2.out r3); replace HVloop := hidI (Nat.lt_of_lt_of_le HVloop.out r3); replace HVnext := hidI (Nat.lt_of_lt_of_le HVnext.out r3); replace HKa := hidI (HKa.out.turn r2); have HVfin := hidI r4; have HFfin := hidI hf; have HC3 := hidI hec; clear r1 r2 r3 hec r4 hf x0 a0; have x0 := HT3.out.x0; have a0 := cell_of_block (o := 0) HKa.out.blk rfl)
    | (go_at_call 85; refine (label_any HT1.out.code (by have := HK.out; omega)).mono ?_; rintro e w2 ⟨rfl, own2, r1, r2, r3⟩; have r4 : c1.labs.length < (c1.label).labs.length := (by simp [Cd.label]); generalize hec : c1.label = c2 at r1 r3 r4; obtain ⟨next, hf⟩ : ∃ x, x = c1.labs.length := ⟨_, rfl⟩; rw [← hf] at r4 ⊢; have HT2 := hidI (HT1.out.next r1 r2); have HU2 := hidI (HU1.out.trans r2); have HL2 := hidI (Nat.le_trans HL1.out r3); replace HVloop := hidI (Nat.lt_of_lt_of_le HVloop.out r3); replace HKa := hidI (HKa.out.turn r2); have HVnext := hidI r4; have HFnext := hidI hf; have HC2 := hidI hec; clear r1 r2 r3 hec r4 hf x0 a0; have x0 := HT2.out.x0; have a0 := cell_of_block (o := 0) HKa.out.blk rfl)
    | (go_at_call 85; refine (label_any HT0.out.drew.code (by have := HK.out; omega)).mono ?_; rintro e w1 ⟨rfl, own1, r1, r2, r3⟩; have r4 : c0.labs.length < (c0.label).labs.length := (by simp [Cd.label]); generalize hec : c0.label = c1 at r1 r3 r4; obtain ⟨loop, hf⟩ : ∃ x, x = c0.labs.length := ⟨_, rfl⟩; rw [← hf] at r4 ⊢; have HT1 := hidI (HT0.out.drew.next r1 r2); have HU1 := hidI (HU0.out.drew.trans r2); have HL1 := hidI (Nat.le_trans HL0.out r3); replace HKa := hidI (HKa.out.drew.turn r2); have HVloop := hidI r4; have HFloop := hidI hf; have HC1 := hidI hec; clear r1 r2 r3 hec r4 hf x0 a0; have x0 := HT1.out.x0; have a0 := cell_of_block (o := 0) HKa.out.blk rfl)
    )
  go_wp2_with fail
  refine (emset_any HT3.out.code 6 0).mono ?_
  rintro e w4 ⟨rfl, own4, r1, r2, r3⟩
  generalize hec : c3.set 6 0 = c4 at r1 r3
  have HT4 := hidI (HT3.out.next r1 r2)
  have HU4 := hidI (HU3.out.trans r2)
  have HL4 := hidI (Nat.le_trans HL3.out r3)
  replace HVloop := hidI (Nat.lt_of_lt_of_le HVloop.out r3)
  replace HVnext := hidI (Nat.lt_of_lt_of_le HVnext.out r3)
  replace HVfin := hidI (Nat.lt_of_lt_of_le HVfin.out r3)
  replace HKa := hidI (HKa.out.turn r2)
  have HC4 := hidI hec
  clear r1 r2 r3 hec x0 a0
  have x0 := HT4.out.x0
  have a0 := cell_of_block (o := 0) HKa.out.blk rfl
  go_wp2_with fail
  refine (here_any HT4.out.code HVloop.out).mono ?_
  rintro e w5 ⟨rfl, own5, r1, r2, r3⟩
  generalize hec : c4.here loop = c5 at r1 r3
  have HT5 := hidI (HT4.out.next r1 r2)
  have HU5 := hidI (HU4.out.trans r2)
  have HL5 := hidI (Nat.le_trans HL4.out r3)
  replace HVloop := hidI (Nat.lt_of_lt_of_le HVloop.out r3)
  replace HVnext := hidI (Nat.lt_of_lt_of_le HVnext.out r3)
  replace HVfin := hidI (Nat.lt_of_lt_of_le HVfin.out r3)
  replace HKa := hidI (HKa.out.turn r2)
  have HC5 := hidI hec
  clear r1 r2 r3 hec x0 a0
  have x0 := HT5.out.x0
  have a0 := cell_of_block (o := 0) HKa.out.blk rfl
  go_wp2_with fail
  refine (emmove_any HT5.out.code 4 6).mono ?_
  rintro e w6 ⟨rfl, own6, r1, r2, r3⟩
  generalize hec : c5.move 4 6 = c6 at r1 r3
  have HT6 := hidI (HT5.out.next r1 r2)
  have HU6 := hidI (HU5.out.trans r2)
  have HL6 := hidI (Nat.le_trans HL5.out r3)
  replace HVloop := hidI (Nat.lt_of_lt_of_le HVloop.out r3)
  replace HVnext := hidI (Nat.lt_of_lt_of_le HVnext.out r3)
  replace HVfin := hidI (Nat.lt_of_lt_of_le HVfin.out r3)
  replace HKa := hidI (HKa.out.turn r2)
  have HC6 := hidI hec
  clear r1 r2 r3 hec x0 a0
  have x0 := HT6.out.x0
  have a0 := cell_of_block (o := 0) HKa.out.blk rfl
  go_wp2_with fail
  refine (emwith_any HT6.out.code 13 4 16 3).mono ?_
  rintro e w7 ⟨rfl, own7, r1, r2, r3⟩
  generalize hec : c6.with_ 13 4 16 3 = c7 at r1 r3
  have HT7 := hidI (HT6.out.next r1 r2)
  have HU7 := hidI (HU6.out.trans r2)
  have HL7 := hidI (Nat.le_trans HL6.out r3)
  replace HVloop := hidI (Nat.lt_of_lt_of_le HVloop.out r3)
  replace HVnext := hidI (Nat.lt_of_lt_of_le HVnext.out r3)
  replace HVfin := hidI (Nat.lt_of_lt_of_le HVfin.out r3)
  replace HKa := hidI (HKa.out.turn r2)
  have HC7 := hidI hec
  clear r1 r2 r3 hec x0 a0
  have x0 := HT7.out.x0
  have a0 := cell_of_block (o := 0) HKa.out.blk rfl
  go_wp2_with fail
  refine (zero_any HT7.out.code 4 HVfin.out (by have := HK.out; omega)).mono ?_
  rintro e w8 ⟨rfl, own8, r1, r2, r3⟩
  generalize hec : c7.zero 4 fin = c8 at r1 r3
  have HT8 := hidI (HT7.out.next r1 r2)
  have HU8 := hidI (HU7.out.trans r2)
  have HL8 := hidI (Nat.le_trans HL7.out r3)
  replace HVloop := hidI (Nat.lt_of_lt_of_le HVloop.out r3)
  replace HVnext := hidI (Nat.lt_of_lt_of_le HVnext.out r3)
  replace HVfin := hidI (Nat.lt_of_lt_of_le HVfin.out r3)
  replace HKa := hidI (HKa.out.turn r2)
  have HC8 := hidI hec
  clear r1 r2 r3 hec x0 a0
  have x0 := HT8.out.x0
  have a0 := cell_of_block (o := 0) HKa.out.blk rfl
  go_wp2_with fail
  refine (txget_any HT8.out OK.out 4 6 (by decide)).mono ?_
  rintro e w9 ⟨rfl, own9, r1, r2, r3⟩
  generalize hec : c8.get t 4 6 = c9 at r1 r3
  have HT9 := hidI (r1)
  have HU9 := hidI (HU8.out.trans r2)
  have HL9 := hidI (Nat.le_trans HL8.out r3)
  replace HVloop := hidI (Nat.lt_of_lt_of_le HVloop.out r3)
  replace HVnext := hidI (Nat.lt_of_lt_of_le HVnext.out r3)
  replace HVfin := hidI (Nat.lt_of_lt_of_le HVfin.out r3)
  replace HKa := hidI (HKa.out.turn r2)
  have HC9 := hidI hec
  clear r1 r2 r3 hec x0 a0
  have x0 := HT9.out.x0
  have a0 := cell_of_block (o := 0) HKa.out.blk rfl
  go_wp2_with fail
  refine (emcalc_any HT9.out.code 10 4 6).mono ?_
  rintro e w10 ⟨rfl, own10, r1, r2, r3⟩
  generalize hec : c9.calc 10 4 6 = c10 at r1 r3
  have HT10 := hidI (HT9.out.next r1 r2)
  have HU10 := hidI (HU9.out.trans r2)
  have HL10 := hidI (Nat.le_trans HL9.out r3)
  replace HVloop := hidI (Nat.lt_of_lt_of_le HVloop.out r3)
  replace HVnext := hidI (Nat.lt_of_lt_of_le HVnext.out r3)
  replace HVfin := hidI (Nat.lt_of_lt_of_le HVfin.out r3)
  replace HKa := hidI (HKa.out.turn r2)
  have HC10 := hidI hec
  clear r1 r2 r3 hec x0 a0
  have x0 := HT10.out.x0
  have a0 := cell_of_block (o := 0) HKa.out.blk rfl
  go_wp2_with fail
  refine (emwith_any HT10.out.code 6 4 1 3).mono ?_
  rintro e w11 ⟨rfl, own11, r1, r2, r3⟩
  generalize hec : c10.with_ 6 4 1 3 = c11 at r1 r3
  have HT11 := hidI (HT10.out.next r1 r2)
  have HU11 := hidI (HU10.out.trans r2)
  have HL11 := hidI (Nat.le_trans HL10.out r3)
  replace HVloop := hidI (Nat.lt_of_lt_of_le HVloop.out r3)
  replace HVnext := hidI (Nat.lt_of_lt_of_le HVnext.out r3)
  replace HVfin := hidI (Nat.lt_of_lt_of_le HVfin.out r3)
  replace HKa := hidI (HKa.out.turn r2)
  have HC11 := hidI hec
  clear r1 r2 r3 hec x0 a0
  have x0 := HT11.out.x0
  have a0 := cell_of_block (o := 0) HKa.out.blk rfl
  go_wp2_with fail
  refine (zero_any HT11.out.code 4 HVnext.out (by have := HK.out; omega)).mono ?_
  rintro e w12 ⟨rfl, own12, r1, r2, r3⟩
  generalize hec : c11.zero 4 next = c12 at r1 r3
  have HT12 := hidI (HT11.out.next r1 r2)
  have HU12 := hidI (HU11.out.trans r2)
  have HL12 := hidI (Nat.le_trans HL11.out r3)
  replace HVloop := hidI (Nat.lt_of_lt_of_le HVloop.out r3)
  replace HVnext := hidI (Nat.lt_of_lt_of_le HVnext.out r3)
  replace HVfin := hidI (Nat.lt_of_lt_of_le HVfin.out r3)
  replace HKa := hidI (HKa.out.turn r2)
  have HC12 := hidI hec
  clear r1 r2 r3 hec x0 a0
  have x0 := HT12.out.x0
  have a0 := cell_of_block (o := 0) HKa.out.blk rfl
  go_wp2_with fail
  refine (txcommit3_any HT12.out OK.out  HKa.out (by have := HK.out; omega)).mono ?_
  rintro e w13 ⟨rfl, own13, r1, r2, r3⟩
  generalize hec : c12.commit3 t = c13 at r1 r3
  have HT13 := hidI (r1)
  have HU13 := hidI (HU12.out.trans r2)
  have HL13 := hidI (Nat.le_trans HL12.out r3)
  replace HVloop := hidI (Nat.lt_of_lt_of_le HVloop.out r3)
  replace HVnext := hidI (Nat.lt_of_lt_of_le HVnext.out r3)
  replace HVfin := hidI (Nat.lt_of_lt_of_le HVfin.out r3)
  replace HKa := hidI (HKa.out.turn r2)
  have HC13 := hidI hec
  clear r1 r2 r3 hec x0 a0
  have x0 := HT13.out.x0
  have a0 := cell_of_block (o := 0) HKa.out.blk rfl
  go_wp2_with fail
  refine (here_any HT13.out.code HVnext.out).mono ?_
  rintro e w14 ⟨rfl, own14, r1, r2, r3⟩
  generalize hec : c13.here next = c14 at r1 r3
  have HT14 := hidI (HT13.out.next r1 r2)
  have HU14 := hidI (HU13.out.trans r2)
  have HL14 := hidI (Nat.le_trans HL13.out r3)
  replace HVloop := hidI (Nat.lt_of_lt_of_le HVloop.out r3)
  replace HVnext := hidI (Nat.lt_of_lt_of_le HVnext.out r3)
  replace HVfin := hidI (Nat.lt_of_lt_of_le HVfin.out r3)
  replace HKa := hidI (HKa.out.turn r2)
  have HC14 := hidI hec
  clear r1 r2 r3 hec x0 a0
  have x0 := HT14.out.x0
  have a0 := cell_of_block (o := 0) HKa.out.blk rfl
  go_wp2_with fail
  refine (emwith_any HT14.out.code 1 6 1 3).mono ?_
  rintro e w15 ⟨rfl, own15, r1, r2, r3⟩
  generalize hec : c14.with_ 1 6 1 3 = c15 at r1 r3
  have HT15 := hidI (HT14.out.next r1 r2)
  have HU15 := hidI (HU14.out.trans r2)
  have HL15 := hidI (Nat.le_trans HL14.out r3)
  replace HVloop := hidI (Nat.lt_of_lt_of_le HVloop.out r3)
  replace HVnext := hidI (Nat.lt_of_lt_of_le HVnext.out r3)
  replace HVfin := hidI (Nat.lt_of_lt_of_le HVfin.out r3)
  replace HKa := hidI (HKa.out.turn r2)
  have HC15 := hidI hec
  clear r1 r2 r3 hec x0 a0
  have x0 := HT15.out.x0
  have a0 := cell_of_block (o := 0) HKa.out.blk rfl
  go_wp2_with fail
  refine (jump_any HT15.out.code HVloop.out (by have := HK.out; omega)).mono ?_
  rintro e w16 ⟨rfl, own16, r1, r2, r3⟩
  generalize hec : c15.jump loop = c16 at r1 r3
  have HT16 := hidI (HT15.out.next r1 r2)
  have HU16 := hidI (HU15.out.trans r2)
  have HL16 := hidI (Nat.le_trans HL15.out r3)
  replace HVloop := hidI (Nat.lt_of_lt_of_le HVloop.out r3)
  replace HVnext := hidI (Nat.lt_of_lt_of_le HVnext.out r3)
  replace HVfin := hidI (Nat.lt_of_lt_of_le HVfin.out r3)
  replace HKa := hidI (HKa.out.turn r2)
  have HC16 := hidI hec
  clear r1 r2 r3 hec x0 a0
  have x0 := HT16.out.x0
  have a0 := cell_of_block (o := 0) HKa.out.blk rfl
  go_wp2_with fail
  refine (here_any HT16.out.code HVfin.out).mono ?_
  rintro e w17 ⟨rfl, own17, r1, r2, r3⟩
  generalize hec : c16.here fin = c17 at r1 r3
  have HT17 := hidI (HT16.out.next r1 r2)
  have HU17 := hidI (HU16.out.trans r2)
  have HL17 := hidI (Nat.le_trans HL16.out r3)
  replace HVloop := hidI (Nat.lt_of_lt_of_le HVloop.out r3)
  replace HVnext := hidI (Nat.lt_of_lt_of_le HVnext.out r3)
  replace HVfin := hidI (Nat.lt_of_lt_of_le HVfin.out r3)
  replace HKa := hidI (HKa.out.turn r2)
  have HC17 := hidI hec
  clear r1 r2 r3 hec x0 a0
  have x0 := HT17.out.x0
  have a0 := cell_of_block (o := 0) HKa.out.blk rfl
  go_wp2_with fail
  go_end0
  have q1 := HC1.out
  have q2 := HC2.out
  have q3 := HC3.out
  have q4 := HC4.out
  have q5 := HC5.out
  have q6 := HC6.out
  have q7 := HC7.out
  have q8 := HC8.out
  have q9 := HC9.out
  have q10 := HC10.out
  have q11 := HC11.out
  have q12 := HC12.out
  have q13 := HC13.out
  have q14 := HC14.out
  have q15 := HC15.out
  have q16 := HC16.out
  have q17 := HC17.out
  have ploop := HFloop.out
  have pnext := HFnext.out
  have pfin := HFfin.out
  subst q1 q2 q3 q4 q5 q6 q7 q8 q9 q10 q11 q12 q13 q14 q15 q16 q17
  subst ploop pnext pfin
  exact ⟨rfl, own17, HT17.out, HU17.out, HL17.out⟩
end

section
open Go.RowKit Go.Maps

variable {w w' w1 w2 : World} {own own1 own2 : Nat → Prop} {bc k br : Nat} {tv : Value} {t : TxC}

def Cd.locks (t : TxC) (rel : Nat) (c0 : Cd) : Cd :=
  let c1 := c0.set 2 0
  let c2 := c1.entries_l t
  let c3 := c2.sto t 7 2
  let c4 := c3.stripes_l t rel
  c4
set_option maxRecDepth 100000 in
set_option maxHeartbeats 4000000 in
theorem txlocks_any {c0 : Cd} {rel : Nat} (h : TxAt w own br bc tv t c0 k) (ok : TxOk t) (hlrel : rel < c0.labs.length) (hk : k ≤ 1099508000000) :
    Calls Tryz.prog 124 #[.pointer (some ⟨br, 0, none⟩), .int .i64 (rel : Int)] w (EmT own w br bc tv t c0 (c0.locks t rel) (k + 16)) := by
  have HT0 := hidI h
  have OK := hidI ok
  have HK := hidI hk
  have HU0 := hidI (Turn.refl own w)
  have HL0 := hidI (Nat.le_refl c0.labs.length)
  have HVrel := hidI hlrel
  have x0 := HT0.out.x0
  have hmf : ∀ (fn : Fn) (first cap : Array Value) (w : World), (Instr.makeFunc fn first cap).run Tryz.prog w = .ok (.func fn first cap) w := fun _ _ _ _ => rfl
  clear h ok hk hlrel
  go_enter Tryz.func124, Tryz.ntmps124
  have hbr := lt_of_block HT0.out.row.blk
  go_wp2_with fail
  obtain ⟨wb, hwb⟩ : ∃ x, x = ((w.alloc (.cells #[.pointer (some ⟨br, 0, none⟩)] 166)).alloc (.cells #[.int .i64 (rel : Int)] 169)) := ⟨_, rfl⟩
  have HTB := hidI (show TxAt wb own br bc tv t c0 k from by rw [hwb]; exact ((HT0.out.alloc (.cells #[.pointer (some ⟨br, 0, none⟩)] 166)).alloc (.cells #[.int .i64 (rel : Int)] 169)))
  have HUB := hidI (show Turn own w own wb from by rw [hwb]; exact ((Turn.refl own w).alloc _).alloc _)
  have HKa := hidI (show Keep wb own (w.heap.size) (.cells #[.pointer (some ⟨br, 0, none⟩)] 166) from by rw [hwb]; exact (Keep.new HT0.out.code _).alloc _)
  have HKd := hidI (show Keep wb own (w.heap.size + 1) (.cells #[.int .i64 (rel : Int)] 169) from by rw [hwb]; exact (by have := Keep.new (HT0.out.code.alloc (.cells #[.pointer (some ⟨br, 0, none⟩)] 166)) (.cells #[.int .i64 (rel : Int)] 169); rw [World.size_alloc] at this; exact this))
  obtain ⟨bd, hbd⟩ : ∃ x, x = w.heap.size + 1 := ⟨_, rfl⟩
  rw [← hbd] at HKd ⊢
  obtain ⟨ba, hba⟩ : ∃ x, x = w.heap.size := ⟨_, rfl⟩
  rw [← hba] at HKa ⊢
  rw [← hwb]
  clear hwb hbr hba hbd x0 HT0 HU0
  have HT0 := HTB
  have HU0 := HUB
  clear HTB HUB
  have x0 := HT0.out.x0
  have a0 := cell_of_block (o := 0) HKa.out.blk rfl
  have d0 := cell_of_block (o := 0) HKd.out.blk rfl
  go_wp2_with fail
  refine (emset_any HT0.out.code 2 0).mono ?_
  rintro e w1 ⟨rfl, own1, r1, r2, r3⟩
  generalize hec : c0.set 2 0 = c1 at r1 r3
  have HT1 := hidI (HT0.out.next r1 r2)
  have HU1 := hidI (HU0.out.trans r2)
  have HL1 := hidI (Nat.le_trans HL0.out r3)
  replace HVrel := hidI (Nat.lt_of_lt_of_le HVrel.out r3)
  replace HKa := hidI (HKa.out.turn r2)
  replace HKd := hidI (HKd.out.turn r2)
  have HC1 := hidI hec
  clear r1 r2 r3 hec x0 a0 d0
  have x0 := HT1.out.x0
  have a0 := cell_of_block (o := 0) HKa.out.blk rfl
  have d0 := cell_of_block (o := 0) HKd.out.blk rfl
  go_wp2_with fail
  refine (txentries_l_any HT1.out OK.out  HKa.out (by have := HK.out; omega)).mono ?_
  rintro e w2 ⟨rfl, own2, r1, r2, r3⟩
  generalize hec : c1.entries_l t = c2 at r1 r3
  have HT2 := hidI (r1)
  have HU2 := hidI (HU1.out.trans r2)
  have HL2 := hidI (Nat.le_trans HL1.out r3)
  replace HVrel := hidI (Nat.lt_of_lt_of_le HVrel.out r3)
  replace HKa := hidI (HKa.out.turn r2)
  replace HKd := hidI (HKd.out.turn r2)
  have HC2 := hidI hec
  clear r1 r2 r3 hec x0 a0 d0
  have x0 := HT2.out.x0
  have a0 := cell_of_block (o := 0) HKa.out.blk rfl
  have d0 := cell_of_block (o := 0) HKd.out.blk rfl
  go_wp2_with fail
  refine (txput_any HT2.out OK.out 7 2 (by decide)).mono ?_
  rintro e w3 ⟨rfl, own3, r1, r2, r3⟩
  generalize hec : c2.sto t 7 2 = c3 at r1 r3
  have HT3 := hidI (r1)
  have HU3 := hidI (HU2.out.trans r2)
  have HL3 := hidI (Nat.le_trans HL2.out r3)
  replace HVrel := hidI (Nat.lt_of_lt_of_le HVrel.out r3)
  replace HKa := hidI (HKa.out.turn r2)
  replace HKd := hidI (HKd.out.turn r2)
  have HC3 := hidI hec
  clear r1 r2 r3 hec x0 a0 d0
  have x0 := HT3.out.x0
  have a0 := cell_of_block (o := 0) HKa.out.blk rfl
  have d0 := cell_of_block (o := 0) HKd.out.blk rfl
  go_wp2_with fail
  refine (txstripes_l_any HT3.out OK.out HVrel.out HKa.out HKd.out (by have := HK.out; omega)).mono ?_
  rintro e w4 ⟨rfl, own4, r1, r2, r3⟩
  generalize hec : c3.stripes_l t rel = c4 at r1 r3
  have HT4 := hidI (r1)
  have HU4 := hidI (HU3.out.trans r2)
  have HL4 := hidI (Nat.le_trans HL3.out r3)
  replace HVrel := hidI (Nat.lt_of_lt_of_le HVrel.out r3)
  replace HKa := hidI (HKa.out.turn r2)
  replace HKd := hidI (HKd.out.turn r2)
  have HC4 := hidI hec
  clear r1 r2 r3 hec x0 a0 d0
  have x0 := HT4.out.x0
  have a0 := cell_of_block (o := 0) HKa.out.blk rfl
  have d0 := cell_of_block (o := 0) HKd.out.blk rfl
  go_wp2_with fail
  go_end0
  have q1 := HC1.out
  have q2 := HC2.out
  have q3 := HC3.out
  have q4 := HC4.out
  subst q1 q2 q3 q4
  exact ⟨rfl, own4, HT4.out, HU4.out, HL4.out⟩

def Cd.validate (t : TxC) (rel : Nat) (c0 : Cd) : Cd :=
  let c1 := c0.stripes_v t rel
  c1
set_option maxRecDepth 100000 in
set_option maxHeartbeats 4000000 in
theorem txvalidate_any {c0 : Cd} {rel : Nat} (h : TxAt w own br bc tv t c0 k) (ok : TxOk t) (hlrel : rel < c0.labs.length) (hk : k ≤ 1099508000000) :
    Calls Tryz.prog 128 #[.pointer (some ⟨br, 0, none⟩), .int .i64 (rel : Int)] w (EmT own w br bc tv t c0 (c0.validate t rel) (k + 14)) := by
  have HT0 := hidI h
  have OK := hidI ok
  have HK := hidI hk
  have HU0 := hidI (Turn.refl own w)
  have HL0 := hidI (Nat.le_refl c0.labs.length)
  have HVrel := hidI hlrel
  have x0 := HT0.out.x0
  have hmf : ∀ (fn : Fn) (first cap : Array Value) (w : World), (Instr.makeFunc fn first cap).run Tryz.prog w = .ok (.func fn first cap) w := fun _ _ _ _ => rfl
  clear h ok hk hlrel
  go_enter Tryz.func128, Tryz.ntmps128
  have hbr := lt_of_block HT0.out.row.blk
  go_wp2_with fail
  obtain ⟨wb, hwb⟩ : ∃ x, x = ((w.alloc (.cells #[.pointer (some ⟨br, 0, none⟩)] 166)).alloc (.cells #[.int .i64 (rel : Int)] 169)) := ⟨_, rfl⟩
  have HTB := hidI (show TxAt wb own br bc tv t c0 k from by rw [hwb]; exact ((HT0.out.alloc (.cells #[.pointer (some ⟨br, 0, none⟩)] 166)).alloc (.cells #[.int .i64 (rel : Int)] 169)))
  have HUB := hidI (show Turn own w own wb from by rw [hwb]; exact ((Turn.refl own w).alloc _).alloc _)
  have HKa := hidI (show Keep wb own (w.heap.size) (.cells #[.pointer (some ⟨br, 0, none⟩)] 166) from by rw [hwb]; exact (Keep.new HT0.out.code _).alloc _)
  have HKd := hidI (show Keep wb own (w.heap.size + 1) (.cells #[.int .i64 (rel : Int)] 169) from by rw [hwb]; exact (by have := Keep.new (HT0.out.code.alloc (.cells #[.pointer (some ⟨br, 0, none⟩)] 166)) (.cells #[.int .i64 (rel : Int)] 169); rw [World.size_alloc] at this; exact this))
  obtain ⟨bd, hbd⟩ : ∃ x, x = w.heap.size + 1 := ⟨_, rfl⟩
  rw [← hbd] at HKd ⊢
  obtain ⟨ba, hba⟩ : ∃ x, x = w.heap.size := ⟨_, rfl⟩
  rw [← hba] at HKa ⊢
  rw [← hwb]
  clear hwb hbr hba hbd x0 HT0 HU0
  have HT0 := HTB
  have HU0 := HUB
  clear HTB HUB
  have x0 := HT0.out.x0
  have a0 := cell_of_block (o := 0) HKa.out.blk rfl
  have d0 := cell_of_block (o := 0) HKd.out.blk rfl
  go_wp2_with fail
  refine (txstripes_v_any HT0.out OK.out HVrel.out HKa.out HKd.out (by have := HK.out; omega)).mono ?_
  rintro e w1 ⟨rfl, own1, r1, r2, r3⟩
  generalize hec : c0.stripes_v t rel = c1 at r1 r3
  have HT1 := hidI (r1)
  have HU1 := hidI (HU0.out.trans r2)
  have HL1 := hidI (Nat.le_trans HL0.out r3)
  replace HVrel := hidI (Nat.lt_of_lt_of_le HVrel.out r3)
  replace HKa := hidI (HKa.out.turn r2)
  replace HKd := hidI (HKd.out.turn r2)
  have HC1 := hidI hec
  clear r1 r2 r3 hec x0 a0 d0
  have x0 := HT1.out.x0
  have a0 := cell_of_block (o := 0) HKa.out.blk rfl
  have d0 := cell_of_block (o := 0) HKd.out.blk rfl
  go_wp2_with fail
  go_end0
  have q1 := HC1.out
  subst q1
  exact ⟨rfl, own1, HT1.out, HU1.out, HL1.out⟩

def Cd.commit (t : TxC) (abort : Nat) (c0 : Cd) : Cd :=
  let rel := c0.labs.length
  let c1 := c0.label
  let ro := c1.labs.length
  let c2 := c1.label
  let tl := c2.labs.length
  let c3 := c2.label
  let fine := c3.labs.length
  let c4 := c3.label
  let c5 := c4.get t 0 2
  let c6 := c5.zero 0 ro
  let c7 := c6.locks t rel
  let c8 := c7.set 1 1
  let c9 := c8.put ⟨9, 0, 7, 1, 0, t.words + 1⟩
  let c10 := c9.with_ 1 1 1 4
  let c11 := c10.sto t 7 1
  let c12 := c11.move 2 1
  let c13 := c12.with_ 13 2 2305843009213693952 4
  let c14 := c13.unless t 2 fine
  let c15 := c14.trap 7
  let c16 := c15.here fine
  let c17 := c16.validate t rel
  let c18 := c17.get t 1 7
  let c19 := c18.set 2 1
  let c20 := c19.note 7 1 2
  let c21 := c20.entries_c t
  let c22 := c21.get t 1 7
  let c23 := c22.calc 1 1 1
  let c24 := c23.stripes_u t
  let c25 := c24.jump tl
  let c26 := c25.here rel
  let c27 := c26.stripes_r t
  let c28 := c27.jump abort
  let c29 := c28.here ro
  let c30 := c29.get t 1 0
  let c31 := c30.note 7 1 7
  let c32 := c31.here tl
  let c33 := c32.tell t
  c33
set_option maxRecDepth 100000 in
set_option maxHeartbeats 4000000 in
theorem txcommit_any {c0 : Cd} {abort : Nat} (h : TxAt w own br bc tv t c0 k) (ok : TxOk t) (hlabort : abort < c0.labs.length) (hk : k ≤ 1099507000000) :
    Calls Tryz.prog 90 #[.pointer (some ⟨br, 0, none⟩), .int .i64 (abort : Int)] w (EmT own w br bc tv t c0 (c0.commit t abort) (k + 60)) := by
  have HT0 := hidI h
  have OK := hidI ok
  have HK := hidI hk
  have HU0 := hidI (Turn.refl own w)
  have HL0 := hidI (Nat.le_refl c0.labs.length)
  have HVabort := hidI hlabort
  have x0 := HT0.out.x0
  have hmf : ∀ (fn : Fn) (first cap : Array Value) (w : World), (Instr.makeFunc fn first cap).run Tryz.prog w = .ok (.func fn first cap) w := fun _ _ _ _ => rfl
  clear h ok hk hlabort
  go_enter Tryz.func90, Tryz.ntmps90
  have hbr := lt_of_block HT0.out.row.blk
  go_wp2_with fail
  obtain ⟨wb, hwb⟩ : ∃ x, x = (w.alloc (.cells #[.pointer (some ⟨br, 0, none⟩)] 166)) := ⟨_, rfl⟩
  have HTB := hidI (show TxAt wb own br bc tv t c0 k from by rw [hwb]; exact (HT0.out.alloc (.cells #[.pointer (some ⟨br, 0, none⟩)] 166)))
  have HUB := hidI (show Turn own w own wb from by rw [hwb]; exact (Turn.refl own w).alloc _)
  have HKa := hidI (show Keep wb own (w.heap.size) (.cells #[.pointer (some ⟨br, 0, none⟩)] 166) from by rw [hwb]; exact Keep.new HT0.out.code _)
  obtain ⟨ba, hba⟩ : ∃ x, x = w.heap.size := ⟨_, rfl⟩
  rw [← hba] at HKa ⊢
  rw [← hwb]
  clear hwb hbr hba x0 HT0 HU0
  have HT0 := HTB
  have HU0 := HUB
  clear HTB HUB
  have x0 := HT0.out.x0
  have a0 := cell_of_block (o := 0) HKa.out.blk rfl
  go_wp2_with fail
  go_region_held3 (fun w' => w'.cell? ⟨br, 0, none⟩ = some (.pointer (some ⟨bc, 0, none⟩)) ∧ w'.cell? ⟨ba, 0, none⟩ = some (.pointer (some ⟨br, 0, none⟩))) (refine ⟨?_, ?_⟩ <;> first | assumption | simp only [World.cell?_drew, *]) (first
    | (go_at_call 85; refine (label_any HT3.out.code (by have := HK.out; omega)).mono ?_; rintro e w4 ⟨rfl, own4, r1, r2, r3⟩; have r4 : c3.labs.length < (c3.label).labs.length := (by simp [Cd.label]); generalize hec : c3.label = c4 at r1 r3 r4; obtain ⟨fine, hf⟩ : ∃ x, x = c3.labs.length := ⟨_, rfl⟩; rw [← hf] at r4 ⊢; have HT4 := hidI (HT3.out.next r1 r2); have HU4 := hidI (HU3.out.trans r2); have HL4 := hidI (Nat.le_trans HL3.out r3); replace HVabort := hidI (Nat.lt_of_lt_of_le HVabort.out r3); replace HVrel := hidI (Nat.lt_of_lt_of_le HVrel.out r3); replace HVro := hidI (Nat.lt_of_lt_of_le HVro.out r3); replace HVtl := hidI (Nat.lt_of_lt_of_le HVtl.out r3); replace HKa := hidI (HKa.out.turn r2); have HVfine := hidI r4; have HFfine := hidI hf; have HC4 := hidI hec; clear r1 r2 r3 hec r4 hf x0 a0; have x0 := HT4.out.x0; have a0 := cell_of_block (o := 0) HKa.out.blk rfl)
    | (go_at_call 85; refine (label_any HT2.out.code (by have := HK.out; omega)).mono ?_; rintro e w3 ⟨rfl, own3, r1, r2, r3⟩; have r4 : c2.labs.length < (c2.label).labs.length := (by simp [Cd.label]); generalize hec : c2.label = c3 at r1 r3 r4; obtain ⟨tl, hf⟩ : ∃ x, x = c2.labs.length := ⟨_, rfl⟩; rw [← hf] at r4 ⊢; have HT3 := hidI (HT2.out.next r1 r2); have HU3 := hidI (HU2.out.trans r2); have HL3 := hidI (Nat.le_trans HL2.out r3); replace HVabort := hidI (Nat.lt_of_lt_of_le HVabort.out r3); replace HVrel := hidI (Nat.lt_of_lt_of_le HVrel.out r3); replace HVro := hidI (Nat.lt_of_lt_of_le HVro.out r3); replace HKa := hidI (HKa.out.turn r2); have HVtl := hidI r4; have HFtl := hidI hf; have HC3 := hidI hec; clear r1 r2 r3 hec r4 hf x0 a0; have x0 := HT3.out.x0; have a0 := cell_of_block (o := 0) HKa.out.blk rfl)
    | (go_at_call 85; refine (label_any HT1.out.code (by have := HK.out; omega)).mono ?_; rintro e w2 ⟨rfl, own2, r1, r2, r3⟩; have r4 : c1.labs.length < (c1.label).labs.length := (by simp [Cd.label]); generalize hec : c1.label = c2 at r1 r3 r4; obtain ⟨ro, hf⟩ : ∃ x, x = c1.labs.length := ⟨_, rfl⟩; rw [← hf] at r4 ⊢; have HT2 := hidI (HT1.out.next r1 r2); have HU2 := hidI (HU1.out.trans r2); have HL2 := hidI (Nat.le_trans HL1.out r3); replace HVabort := hidI (Nat.lt_of_lt_of_le HVabort.out r3); replace HVrel := hidI (Nat.lt_of_lt_of_le HVrel.out r3); replace HKa := hidI (HKa.out.turn r2); have HVro := hidI r4; have HFro := hidI hf; have HC2 := hidI hec; clear r1 r2 r3 hec r4 hf x0 a0; have x0 := HT2.out.x0; have a0 := cell_of_block (o := 0) HKa.out.blk rfl)
    | (go_at_call 85; refine (label_any HT0.out.drew.code (by have := HK.out; omega)).mono ?_; rintro e w1 ⟨rfl, own1, r1, r2, r3⟩; have r4 : c0.labs.length < (c0.label).labs.length := (by simp [Cd.label]); generalize hec : c0.label = c1 at r1 r3 r4; obtain ⟨rel, hf⟩ : ∃ x, x = c0.labs.length := ⟨_, rfl⟩; rw [← hf] at r4 ⊢; have HT1 := hidI (HT0.out.drew.next r1 r2); have HU1 := hidI (HU0.out.drew.trans r2); have HL1 := hidI (Nat.le_trans HL0.out r3); replace HVabort := hidI (Nat.lt_of_lt_of_le HVabort.out r3); replace HKa := hidI (HKa.out.drew.turn r2); have HVrel := hidI r4; have HFrel := hidI hf; have HC1 := hidI hec; clear r1 r2 r3 hec r4 hf x0 a0; have x0 := HT1.out.x0; have a0 := cell_of_block (o := 0) HKa.out.blk rfl)
    )
  go_wp2_with fail
  refine (txget_any HT4.out OK.out 0 2 (by decide)).mono ?_
  rintro e w5 ⟨rfl, own5, r1, r2, r3⟩
  generalize hec : c4.get t 0 2 = c5 at r1 r3
  have HT5 := hidI (r1)
  have HU5 := hidI (HU4.out.trans r2)
  have HL5 := hidI (Nat.le_trans HL4.out r3)
  replace HVabort := hidI (Nat.lt_of_lt_of_le HVabort.out r3)
  replace HVrel := hidI (Nat.lt_of_lt_of_le HVrel.out r3)
  replace HVro := hidI (Nat.lt_of_lt_of_le HVro.out r3)
  replace HVtl := hidI (Nat.lt_of_lt_of_le HVtl.out r3)
  replace HVfine := hidI (Nat.lt_of_lt_of_le HVfine.out r3)
  replace HKa := hidI (HKa.out.turn r2)
  have HC5 := hidI hec
  clear r1 r2 r3 hec x0 a0
  have x0 := HT5.out.x0
  have a0 := cell_of_block (o := 0) HKa.out.blk rfl
  go_wp2_with fail
  refine (zero_any HT5.out.code 0 HVro.out (by have := HK.out; omega)).mono ?_
  rintro e w6 ⟨rfl, own6, r1, r2, r3⟩
  generalize hec : c5.zero 0 ro = c6 at r1 r3
  have HT6 := hidI (HT5.out.next r1 r2)
  have HU6 := hidI (HU5.out.trans r2)
  have HL6 := hidI (Nat.le_trans HL5.out r3)
  replace HVabort := hidI (Nat.lt_of_lt_of_le HVabort.out r3)
  replace HVrel := hidI (Nat.lt_of_lt_of_le HVrel.out r3)
  replace HVro := hidI (Nat.lt_of_lt_of_le HVro.out r3)
  replace HVtl := hidI (Nat.lt_of_lt_of_le HVtl.out r3)
  replace HVfine := hidI (Nat.lt_of_lt_of_le HVfine.out r3)
  replace HKa := hidI (HKa.out.turn r2)
  have HC6 := hidI hec
  clear r1 r2 r3 hec x0 a0
  have x0 := HT6.out.x0
  have a0 := cell_of_block (o := 0) HKa.out.blk rfl
  go_wp2_with fail
  refine (txlocks_any HT6.out OK.out HVrel.out  (by have := HK.out; omega)).mono ?_
  rintro e w7 ⟨rfl, own7, r1, r2, r3⟩
  generalize hec : c6.locks t rel = c7 at r1 r3
  have HT7 := hidI (r1)
  have HU7 := hidI (HU6.out.trans r2)
  have HL7 := hidI (Nat.le_trans HL6.out r3)
  replace HVabort := hidI (Nat.lt_of_lt_of_le HVabort.out r3)
  replace HVrel := hidI (Nat.lt_of_lt_of_le HVrel.out r3)
  replace HVro := hidI (Nat.lt_of_lt_of_le HVro.out r3)
  replace HVtl := hidI (Nat.lt_of_lt_of_le HVtl.out r3)
  replace HVfine := hidI (Nat.lt_of_lt_of_le HVfine.out r3)
  replace HKa := hidI (HKa.out.turn r2)
  have HC7 := hidI hec
  clear r1 r2 r3 hec x0 a0
  have x0 := HT7.out.x0
  have a0 := cell_of_block (o := 0) HKa.out.blk rfl
  go_wp2_with fail
  refine (emset_any HT7.out.code 1 1).mono ?_
  rintro e w8 ⟨rfl, own8, r1, r2, r3⟩
  generalize hec : c7.set 1 1 = c8 at r1 r3
  have HT8 := hidI (HT7.out.next r1 r2)
  have HU8 := hidI (HU7.out.trans r2)
  have HL8 := hidI (Nat.le_trans HL7.out r3)
  replace HVabort := hidI (Nat.lt_of_lt_of_le HVabort.out r3)
  replace HVrel := hidI (Nat.lt_of_lt_of_le HVrel.out r3)
  replace HVro := hidI (Nat.lt_of_lt_of_le HVro.out r3)
  replace HVtl := hidI (Nat.lt_of_lt_of_le HVtl.out r3)
  replace HVfine := hidI (Nat.lt_of_lt_of_le HVfine.out r3)
  replace HKa := hidI (HKa.out.turn r2)
  have HC8 := hidI hec
  clear r1 r2 r3 hec x0 a0
  have x0 := HT8.out.x0
  have a0 := cell_of_block (o := 0) HKa.out.blk rfl
  have y1 := HT8.out.x1
  have y2 := HT8.out.x2
  have y3 := HT8.out.x3
  have ew : wrap64 (t.words + 1) = t.words + 1 := by have := OK.out.words; unfold wrap64; omega
  go_wp2_with fail
  go_region_held3 (fun w' => w'.cell? ⟨br, 0, none⟩ = some (.pointer (some ⟨bc, 0, none⟩)) ∧ w'.cell? ⟨br, 1, none⟩ = some (.int .i64 t.words) ∧ w'.cell? ⟨br, 2, none⟩ = some (tv) ∧ w'.cell? ⟨br, 3, none⟩ = some (.int .i64 t.size) ∧ w'.cell? ⟨ba, 0, none⟩ = some (.pointer (some ⟨br, 0, none⟩))) (refine ⟨?_, ?_, ?_, ?_, ?_⟩ <;> first | assumption | simp only [World.cell?_drew, *]) (first
    | (go_at_call 95; refine (put_any HTK.out.code ⟨9, 0, 7, 1, 0, t.words + 1⟩).mono ?_; rintro e w9 ⟨rfl, own9, r1, r2, r3⟩; generalize hec : c8.put ⟨9, 0, 7, 1, 0, t.words + 1⟩ = c9 at r1 r3; have HT9 := hidI (HTK.out.next r1 r2); have HU9 := hidI (HUK.out.trans r2); have HL9 := hidI (Nat.le_trans HL8.out r3); replace HVabort := hidI (Nat.lt_of_lt_of_le HVabort.out r3); replace HVrel := hidI (Nat.lt_of_lt_of_le HVrel.out r3); replace HVro := hidI (Nat.lt_of_lt_of_le HVro.out r3); replace HVtl := hidI (Nat.lt_of_lt_of_le HVtl.out r3); replace HVfine := hidI (Nat.lt_of_lt_of_le HVfine.out r3); replace HKa := hidI (HKKa.out.turn r2); have HC9 := hidI hec; clear r1 r2 r3 hec x0 a0 y1 y2 y3; have x0 := HT9.out.x0; have a0 := cell_of_block (o := 0) HKa.out.blk rfl; have y1 := HT9.out.x1; have y2 := HT9.out.x2; have y3 := HT9.out.x3)
    | (go_at_call 118; refine (clock_any _ _ _ _).mono ?_; rintro e wk ⟨rfl, hb⟩; rw [ew]; have HTK := hidI (HT8.out.drew.below hb); have HUK := hidI (HU8.out.drew.below hb); have HKKa := hidI (HKa.out.drew.below hb); clear hb y1 y2 y3 x0 a0; have x0 := HTK.out.x0; have y1 := HTK.out.x1; have y2 := HTK.out.x2; have y3 := HTK.out.x3; have a0 := cell_of_block (o := 0) HKKa.out.blk rfl)
    )
  clear HTK
  clear HUK
  clear HKKa
  clear ew y1 y2 y3
  go_wp2_with fail
  refine (emwith_any HT9.out.code 1 1 1 4).mono ?_
  rintro e w10 ⟨rfl, own10, r1, r2, r3⟩
  generalize hec : c9.with_ 1 1 1 4 = c10 at r1 r3
  have HT10 := hidI (HT9.out.next r1 r2)
  have HU10 := hidI (HU9.out.trans r2)
  have HL10 := hidI (Nat.le_trans HL9.out r3)
  replace HVabort := hidI (Nat.lt_of_lt_of_le HVabort.out r3)
  replace HVrel := hidI (Nat.lt_of_lt_of_le HVrel.out r3)
  replace HVro := hidI (Nat.lt_of_lt_of_le HVro.out r3)
  replace HVtl := hidI (Nat.lt_of_lt_of_le HVtl.out r3)
  replace HVfine := hidI (Nat.lt_of_lt_of_le HVfine.out r3)
  replace HKa := hidI (HKa.out.turn r2)
  have HC10 := hidI hec
  clear r1 r2 r3 hec x0 a0
  have x0 := HT10.out.x0
  have a0 := cell_of_block (o := 0) HKa.out.blk rfl
  go_wp2_with fail
  refine (txput_any HT10.out OK.out 7 1 (by decide)).mono ?_
  rintro e w11 ⟨rfl, own11, r1, r2, r3⟩
  generalize hec : c10.sto t 7 1 = c11 at r1 r3
  have HT11 := hidI (r1)
  have HU11 := hidI (HU10.out.trans r2)
  have HL11 := hidI (Nat.le_trans HL10.out r3)
  replace HVabort := hidI (Nat.lt_of_lt_of_le HVabort.out r3)
  replace HVrel := hidI (Nat.lt_of_lt_of_le HVrel.out r3)
  replace HVro := hidI (Nat.lt_of_lt_of_le HVro.out r3)
  replace HVtl := hidI (Nat.lt_of_lt_of_le HVtl.out r3)
  replace HVfine := hidI (Nat.lt_of_lt_of_le HVfine.out r3)
  replace HKa := hidI (HKa.out.turn r2)
  have HC11 := hidI hec
  clear r1 r2 r3 hec x0 a0
  have x0 := HT11.out.x0
  have a0 := cell_of_block (o := 0) HKa.out.blk rfl
  go_wp2_with fail
  refine (emmove_any HT11.out.code 2 1).mono ?_
  rintro e w12 ⟨rfl, own12, r1, r2, r3⟩
  generalize hec : c11.move 2 1 = c12 at r1 r3
  have HT12 := hidI (HT11.out.next r1 r2)
  have HU12 := hidI (HU11.out.trans r2)
  have HL12 := hidI (Nat.le_trans HL11.out r3)
  replace HVabort := hidI (Nat.lt_of_lt_of_le HVabort.out r3)
  replace HVrel := hidI (Nat.lt_of_lt_of_le HVrel.out r3)
  replace HVro := hidI (Nat.lt_of_lt_of_le HVro.out r3)
  replace HVtl := hidI (Nat.lt_of_lt_of_le HVtl.out r3)
  replace HVfine := hidI (Nat.lt_of_lt_of_le HVfine.out r3)
  replace HKa := hidI (HKa.out.turn r2)
  have HC12 := hidI hec
  clear r1 r2 r3 hec x0 a0
  have x0 := HT12.out.x0
  have a0 := cell_of_block (o := 0) HKa.out.blk rfl
  go_wp2_with fail
  refine (emwith_any HT12.out.code 13 2 2305843009213693952 4).mono ?_
  rintro e w13 ⟨rfl, own13, r1, r2, r3⟩
  generalize hec : c12.with_ 13 2 2305843009213693952 4 = c13 at r1 r3
  have HT13 := hidI (HT12.out.next r1 r2)
  have HU13 := hidI (HU12.out.trans r2)
  have HL13 := hidI (Nat.le_trans HL12.out r3)
  replace HVabort := hidI (Nat.lt_of_lt_of_le HVabort.out r3)
  replace HVrel := hidI (Nat.lt_of_lt_of_le HVrel.out r3)
  replace HVro := hidI (Nat.lt_of_lt_of_le HVro.out r3)
  replace HVtl := hidI (Nat.lt_of_lt_of_le HVtl.out r3)
  replace HVfine := hidI (Nat.lt_of_lt_of_le HVfine.out r3)
  replace HKa := hidI (HKa.out.turn r2)
  have HC13 := hidI hec
  clear r1 r2 r3 hec x0 a0
  have x0 := HT13.out.x0
  have a0 := cell_of_block (o := 0) HKa.out.blk rfl
  go_wp2_with fail
  refine (txunless_any HT13.out OK.out 2 HVfine.out (by have := HK.out; omega)).mono ?_
  rintro e w14 ⟨rfl, own14, r1, r2, r3⟩
  generalize hec : c13.unless t 2 fine = c14 at r1 r3
  have HT14 := hidI (r1)
  have HU14 := hidI (HU13.out.trans r2)
  have HL14 := hidI (Nat.le_trans HL13.out r3)
  replace HVabort := hidI (Nat.lt_of_lt_of_le HVabort.out r3)
  replace HVrel := hidI (Nat.lt_of_lt_of_le HVrel.out r3)
  replace HVro := hidI (Nat.lt_of_lt_of_le HVro.out r3)
  replace HVtl := hidI (Nat.lt_of_lt_of_le HVtl.out r3)
  replace HVfine := hidI (Nat.lt_of_lt_of_le HVfine.out r3)
  replace HKa := hidI (HKa.out.turn r2)
  have HC14 := hidI hec
  clear r1 r2 r3 hec x0 a0
  have x0 := HT14.out.x0
  have a0 := cell_of_block (o := 0) HKa.out.blk rfl
  go_wp2_with fail
  refine (emtrap_any HT14.out.code 7 (by decide)).mono ?_
  rintro e w15 ⟨rfl, own15, r1, r2, r3⟩
  generalize hec : c14.trap 7 = c15 at r1 r3
  have HT15 := hidI (HT14.out.next r1 r2)
  have HU15 := hidI (HU14.out.trans r2)
  have HL15 := hidI (Nat.le_trans HL14.out r3)
  replace HVabort := hidI (Nat.lt_of_lt_of_le HVabort.out r3)
  replace HVrel := hidI (Nat.lt_of_lt_of_le HVrel.out r3)
  replace HVro := hidI (Nat.lt_of_lt_of_le HVro.out r3)
  replace HVtl := hidI (Nat.lt_of_lt_of_le HVtl.out r3)
  replace HVfine := hidI (Nat.lt_of_lt_of_le HVfine.out r3)
  replace HKa := hidI (HKa.out.turn r2)
  have HC15 := hidI hec
  clear r1 r2 r3 hec x0 a0
  have x0 := HT15.out.x0
  have a0 := cell_of_block (o := 0) HKa.out.blk rfl
  go_wp2_with fail
  refine (here_any HT15.out.code HVfine.out).mono ?_
  rintro e w16 ⟨rfl, own16, r1, r2, r3⟩
  generalize hec : c15.here fine = c16 at r1 r3
  have HT16 := hidI (HT15.out.next r1 r2)
  have HU16 := hidI (HU15.out.trans r2)
  have HL16 := hidI (Nat.le_trans HL15.out r3)
  replace HVabort := hidI (Nat.lt_of_lt_of_le HVabort.out r3)
  replace HVrel := hidI (Nat.lt_of_lt_of_le HVrel.out r3)
  replace HVro := hidI (Nat.lt_of_lt_of_le HVro.out r3)
  replace HVtl := hidI (Nat.lt_of_lt_of_le HVtl.out r3)
  replace HVfine := hidI (Nat.lt_of_lt_of_le HVfine.out r3)
  replace HKa := hidI (HKa.out.turn r2)
  have HC16 := hidI hec
  clear r1 r2 r3 hec x0 a0
  have x0 := HT16.out.x0
  have a0 := cell_of_block (o := 0) HKa.out.blk rfl
  go_wp2_with fail
  refine (txvalidate_any HT16.out OK.out HVrel.out  (by have := HK.out; omega)).mono ?_
  rintro e w17 ⟨rfl, own17, r1, r2, r3⟩
  generalize hec : c16.validate t rel = c17 at r1 r3
  have HT17 := hidI (r1)
  have HU17 := hidI (HU16.out.trans r2)
  have HL17 := hidI (Nat.le_trans HL16.out r3)
  replace HVabort := hidI (Nat.lt_of_lt_of_le HVabort.out r3)
  replace HVrel := hidI (Nat.lt_of_lt_of_le HVrel.out r3)
  replace HVro := hidI (Nat.lt_of_lt_of_le HVro.out r3)
  replace HVtl := hidI (Nat.lt_of_lt_of_le HVtl.out r3)
  replace HVfine := hidI (Nat.lt_of_lt_of_le HVfine.out r3)
  replace HKa := hidI (HKa.out.turn r2)
  have HC17 := hidI hec
  clear r1 r2 r3 hec x0 a0
  have x0 := HT17.out.x0
  have a0 := cell_of_block (o := 0) HKa.out.blk rfl
  go_wp2_with fail
  refine (txget_any HT17.out OK.out 1 7 (by decide)).mono ?_
  rintro e w18 ⟨rfl, own18, r1, r2, r3⟩
  generalize hec : c17.get t 1 7 = c18 at r1 r3
  have HT18 := hidI (r1)
  have HU18 := hidI (HU17.out.trans r2)
  have HL18 := hidI (Nat.le_trans HL17.out r3)
  replace HVabort := hidI (Nat.lt_of_lt_of_le HVabort.out r3)
  replace HVrel := hidI (Nat.lt_of_lt_of_le HVrel.out r3)
  replace HVro := hidI (Nat.lt_of_lt_of_le HVro.out r3)
  replace HVtl := hidI (Nat.lt_of_lt_of_le HVtl.out r3)
  replace HVfine := hidI (Nat.lt_of_lt_of_le HVfine.out r3)
  replace HKa := hidI (HKa.out.turn r2)
  have HC18 := hidI hec
  clear r1 r2 r3 hec x0 a0
  have x0 := HT18.out.x0
  have a0 := cell_of_block (o := 0) HKa.out.blk rfl
  go_wp2_with fail
  refine (emset_any HT18.out.code 2 1).mono ?_
  rintro e w19 ⟨rfl, own19, r1, r2, r3⟩
  generalize hec : c18.set 2 1 = c19 at r1 r3
  have HT19 := hidI (HT18.out.next r1 r2)
  have HU19 := hidI (HU18.out.trans r2)
  have HL19 := hidI (Nat.le_trans HL18.out r3)
  replace HVabort := hidI (Nat.lt_of_lt_of_le HVabort.out r3)
  replace HVrel := hidI (Nat.lt_of_lt_of_le HVrel.out r3)
  replace HVro := hidI (Nat.lt_of_lt_of_le HVro.out r3)
  replace HVtl := hidI (Nat.lt_of_lt_of_le HVtl.out r3)
  replace HVfine := hidI (Nat.lt_of_lt_of_le HVfine.out r3)
  replace HKa := hidI (HKa.out.turn r2)
  have HC19 := hidI hec
  clear r1 r2 r3 hec x0 a0
  have x0 := HT19.out.x0
  have a0 := cell_of_block (o := 0) HKa.out.blk rfl
  go_wp2_with fail
  refine (emnote_any HT19.out.code 7 1 2 (by decide)).mono ?_
  rintro e w20 ⟨rfl, own20, r1, r2, r3⟩
  generalize hec : c19.note 7 1 2 = c20 at r1 r3
  have HT20 := hidI (HT19.out.next r1 r2)
  have HU20 := hidI (HU19.out.trans r2)
  have HL20 := hidI (Nat.le_trans HL19.out r3)
  replace HVabort := hidI (Nat.lt_of_lt_of_le HVabort.out r3)
  replace HVrel := hidI (Nat.lt_of_lt_of_le HVrel.out r3)
  replace HVro := hidI (Nat.lt_of_lt_of_le HVro.out r3)
  replace HVtl := hidI (Nat.lt_of_lt_of_le HVtl.out r3)
  replace HVfine := hidI (Nat.lt_of_lt_of_le HVfine.out r3)
  replace HKa := hidI (HKa.out.turn r2)
  have HC20 := hidI hec
  clear r1 r2 r3 hec x0 a0
  have x0 := HT20.out.x0
  have a0 := cell_of_block (o := 0) HKa.out.blk rfl
  go_wp2_with fail
  refine (txentries_c_any HT20.out OK.out  HKa.out (by have := HK.out; omega)).mono ?_
  rintro e w21 ⟨rfl, own21, r1, r2, r3⟩
  generalize hec : c20.entries_c t = c21 at r1 r3
  have HT21 := hidI (r1)
  have HU21 := hidI (HU20.out.trans r2)
  have HL21 := hidI (Nat.le_trans HL20.out r3)
  replace HVabort := hidI (Nat.lt_of_lt_of_le HVabort.out r3)
  replace HVrel := hidI (Nat.lt_of_lt_of_le HVrel.out r3)
  replace HVro := hidI (Nat.lt_of_lt_of_le HVro.out r3)
  replace HVtl := hidI (Nat.lt_of_lt_of_le HVtl.out r3)
  replace HVfine := hidI (Nat.lt_of_lt_of_le HVfine.out r3)
  replace HKa := hidI (HKa.out.turn r2)
  have HC21 := hidI hec
  clear r1 r2 r3 hec x0 a0
  have x0 := HT21.out.x0
  have a0 := cell_of_block (o := 0) HKa.out.blk rfl
  go_wp2_with fail
  refine (txget_any HT21.out OK.out 1 7 (by decide)).mono ?_
  rintro e w22 ⟨rfl, own22, r1, r2, r3⟩
  generalize hec : c21.get t 1 7 = c22 at r1 r3
  have HT22 := hidI (r1)
  have HU22 := hidI (HU21.out.trans r2)
  have HL22 := hidI (Nat.le_trans HL21.out r3)
  replace HVabort := hidI (Nat.lt_of_lt_of_le HVabort.out r3)
  replace HVrel := hidI (Nat.lt_of_lt_of_le HVrel.out r3)
  replace HVro := hidI (Nat.lt_of_lt_of_le HVro.out r3)
  replace HVtl := hidI (Nat.lt_of_lt_of_le HVtl.out r3)
  replace HVfine := hidI (Nat.lt_of_lt_of_le HVfine.out r3)
  replace HKa := hidI (HKa.out.turn r2)
  have HC22 := hidI hec
  clear r1 r2 r3 hec x0 a0
  have x0 := HT22.out.x0
  have a0 := cell_of_block (o := 0) HKa.out.blk rfl
  go_wp2_with fail
  refine (emcalc_any HT22.out.code 1 1 1).mono ?_
  rintro e w23 ⟨rfl, own23, r1, r2, r3⟩
  generalize hec : c22.calc 1 1 1 = c23 at r1 r3
  have HT23 := hidI (HT22.out.next r1 r2)
  have HU23 := hidI (HU22.out.trans r2)
  have HL23 := hidI (Nat.le_trans HL22.out r3)
  replace HVabort := hidI (Nat.lt_of_lt_of_le HVabort.out r3)
  replace HVrel := hidI (Nat.lt_of_lt_of_le HVrel.out r3)
  replace HVro := hidI (Nat.lt_of_lt_of_le HVro.out r3)
  replace HVtl := hidI (Nat.lt_of_lt_of_le HVtl.out r3)
  replace HVfine := hidI (Nat.lt_of_lt_of_le HVfine.out r3)
  replace HKa := hidI (HKa.out.turn r2)
  have HC23 := hidI hec
  clear r1 r2 r3 hec x0 a0
  have x0 := HT23.out.x0
  have a0 := cell_of_block (o := 0) HKa.out.blk rfl
  go_wp2_with fail
  refine (txstripes_u_any HT23.out OK.out  HKa.out (by have := HK.out; omega)).mono ?_
  rintro e w24 ⟨rfl, own24, r1, r2, r3⟩
  generalize hec : c23.stripes_u t = c24 at r1 r3
  have HT24 := hidI (r1)
  have HU24 := hidI (HU23.out.trans r2)
  have HL24 := hidI (Nat.le_trans HL23.out r3)
  replace HVabort := hidI (Nat.lt_of_lt_of_le HVabort.out r3)
  replace HVrel := hidI (Nat.lt_of_lt_of_le HVrel.out r3)
  replace HVro := hidI (Nat.lt_of_lt_of_le HVro.out r3)
  replace HVtl := hidI (Nat.lt_of_lt_of_le HVtl.out r3)
  replace HVfine := hidI (Nat.lt_of_lt_of_le HVfine.out r3)
  replace HKa := hidI (HKa.out.turn r2)
  have HC24 := hidI hec
  clear r1 r2 r3 hec x0 a0
  have x0 := HT24.out.x0
  have a0 := cell_of_block (o := 0) HKa.out.blk rfl
  go_wp2_with fail
  refine (jump_any HT24.out.code HVtl.out (by have := HK.out; omega)).mono ?_
  rintro e w25 ⟨rfl, own25, r1, r2, r3⟩
  generalize hec : c24.jump tl = c25 at r1 r3
  have HT25 := hidI (HT24.out.next r1 r2)
  have HU25 := hidI (HU24.out.trans r2)
  have HL25 := hidI (Nat.le_trans HL24.out r3)
  replace HVabort := hidI (Nat.lt_of_lt_of_le HVabort.out r3)
  replace HVrel := hidI (Nat.lt_of_lt_of_le HVrel.out r3)
  replace HVro := hidI (Nat.lt_of_lt_of_le HVro.out r3)
  replace HVtl := hidI (Nat.lt_of_lt_of_le HVtl.out r3)
  replace HVfine := hidI (Nat.lt_of_lt_of_le HVfine.out r3)
  replace HKa := hidI (HKa.out.turn r2)
  have HC25 := hidI hec
  clear r1 r2 r3 hec x0 a0
  have x0 := HT25.out.x0
  have a0 := cell_of_block (o := 0) HKa.out.blk rfl
  go_wp2_with fail
  refine (here_any HT25.out.code HVrel.out).mono ?_
  rintro e w26 ⟨rfl, own26, r1, r2, r3⟩
  generalize hec : c25.here rel = c26 at r1 r3
  have HT26 := hidI (HT25.out.next r1 r2)
  have HU26 := hidI (HU25.out.trans r2)
  have HL26 := hidI (Nat.le_trans HL25.out r3)
  replace HVabort := hidI (Nat.lt_of_lt_of_le HVabort.out r3)
  replace HVrel := hidI (Nat.lt_of_lt_of_le HVrel.out r3)
  replace HVro := hidI (Nat.lt_of_lt_of_le HVro.out r3)
  replace HVtl := hidI (Nat.lt_of_lt_of_le HVtl.out r3)
  replace HVfine := hidI (Nat.lt_of_lt_of_le HVfine.out r3)
  replace HKa := hidI (HKa.out.turn r2)
  have HC26 := hidI hec
  clear r1 r2 r3 hec x0 a0
  have x0 := HT26.out.x0
  have a0 := cell_of_block (o := 0) HKa.out.blk rfl
  go_wp2_with fail
  refine (txstripes_r_any HT26.out OK.out  HKa.out (by have := HK.out; omega)).mono ?_
  rintro e w27 ⟨rfl, own27, r1, r2, r3⟩
  generalize hec : c26.stripes_r t = c27 at r1 r3
  have HT27 := hidI (r1)
  have HU27 := hidI (HU26.out.trans r2)
  have HL27 := hidI (Nat.le_trans HL26.out r3)
  replace HVabort := hidI (Nat.lt_of_lt_of_le HVabort.out r3)
  replace HVrel := hidI (Nat.lt_of_lt_of_le HVrel.out r3)
  replace HVro := hidI (Nat.lt_of_lt_of_le HVro.out r3)
  replace HVtl := hidI (Nat.lt_of_lt_of_le HVtl.out r3)
  replace HVfine := hidI (Nat.lt_of_lt_of_le HVfine.out r3)
  replace HKa := hidI (HKa.out.turn r2)
  have HC27 := hidI hec
  clear r1 r2 r3 hec x0 a0
  have x0 := HT27.out.x0
  have a0 := cell_of_block (o := 0) HKa.out.blk rfl
  go_wp2_with fail
  refine (jump_any HT27.out.code HVabort.out (by have := HK.out; omega)).mono ?_
  rintro e w28 ⟨rfl, own28, r1, r2, r3⟩
  generalize hec : c27.jump abort = c28 at r1 r3
  have HT28 := hidI (HT27.out.next r1 r2)
  have HU28 := hidI (HU27.out.trans r2)
  have HL28 := hidI (Nat.le_trans HL27.out r3)
  replace HVabort := hidI (Nat.lt_of_lt_of_le HVabort.out r3)
  replace HVrel := hidI (Nat.lt_of_lt_of_le HVrel.out r3)
  replace HVro := hidI (Nat.lt_of_lt_of_le HVro.out r3)
  replace HVtl := hidI (Nat.lt_of_lt_of_le HVtl.out r3)
  replace HVfine := hidI (Nat.lt_of_lt_of_le HVfine.out r3)
  replace HKa := hidI (HKa.out.turn r2)
  have HC28 := hidI hec
  clear r1 r2 r3 hec x0 a0
  have x0 := HT28.out.x0
  have a0 := cell_of_block (o := 0) HKa.out.blk rfl
  go_wp2_with fail
  refine (here_any HT28.out.code HVro.out).mono ?_
  rintro e w29 ⟨rfl, own29, r1, r2, r3⟩
  generalize hec : c28.here ro = c29 at r1 r3
  have HT29 := hidI (HT28.out.next r1 r2)
  have HU29 := hidI (HU28.out.trans r2)
  have HL29 := hidI (Nat.le_trans HL28.out r3)
  replace HVabort := hidI (Nat.lt_of_lt_of_le HVabort.out r3)
  replace HVrel := hidI (Nat.lt_of_lt_of_le HVrel.out r3)
  replace HVro := hidI (Nat.lt_of_lt_of_le HVro.out r3)
  replace HVtl := hidI (Nat.lt_of_lt_of_le HVtl.out r3)
  replace HVfine := hidI (Nat.lt_of_lt_of_le HVfine.out r3)
  replace HKa := hidI (HKa.out.turn r2)
  have HC29 := hidI hec
  clear r1 r2 r3 hec x0 a0
  have x0 := HT29.out.x0
  have a0 := cell_of_block (o := 0) HKa.out.blk rfl
  go_wp2_with fail
  refine (txget_any HT29.out OK.out 1 0 (by decide)).mono ?_
  rintro e w30 ⟨rfl, own30, r1, r2, r3⟩
  generalize hec : c29.get t 1 0 = c30 at r1 r3
  have HT30 := hidI (r1)
  have HU30 := hidI (HU29.out.trans r2)
  have HL30 := hidI (Nat.le_trans HL29.out r3)
  replace HVabort := hidI (Nat.lt_of_lt_of_le HVabort.out r3)
  replace HVrel := hidI (Nat.lt_of_lt_of_le HVrel.out r3)
  replace HVro := hidI (Nat.lt_of_lt_of_le HVro.out r3)
  replace HVtl := hidI (Nat.lt_of_lt_of_le HVtl.out r3)
  replace HVfine := hidI (Nat.lt_of_lt_of_le HVfine.out r3)
  replace HKa := hidI (HKa.out.turn r2)
  have HC30 := hidI hec
  clear r1 r2 r3 hec x0 a0
  have x0 := HT30.out.x0
  have a0 := cell_of_block (o := 0) HKa.out.blk rfl
  go_wp2_with fail
  refine (emnote_any HT30.out.code 7 1 7 (by decide)).mono ?_
  rintro e w31 ⟨rfl, own31, r1, r2, r3⟩
  generalize hec : c30.note 7 1 7 = c31 at r1 r3
  have HT31 := hidI (HT30.out.next r1 r2)
  have HU31 := hidI (HU30.out.trans r2)
  have HL31 := hidI (Nat.le_trans HL30.out r3)
  replace HVabort := hidI (Nat.lt_of_lt_of_le HVabort.out r3)
  replace HVrel := hidI (Nat.lt_of_lt_of_le HVrel.out r3)
  replace HVro := hidI (Nat.lt_of_lt_of_le HVro.out r3)
  replace HVtl := hidI (Nat.lt_of_lt_of_le HVtl.out r3)
  replace HVfine := hidI (Nat.lt_of_lt_of_le HVfine.out r3)
  replace HKa := hidI (HKa.out.turn r2)
  have HC31 := hidI hec
  clear r1 r2 r3 hec x0 a0
  have x0 := HT31.out.x0
  have a0 := cell_of_block (o := 0) HKa.out.blk rfl
  go_wp2_with fail
  refine (here_any HT31.out.code HVtl.out).mono ?_
  rintro e w32 ⟨rfl, own32, r1, r2, r3⟩
  generalize hec : c31.here tl = c32 at r1 r3
  have HT32 := hidI (HT31.out.next r1 r2)
  have HU32 := hidI (HU31.out.trans r2)
  have HL32 := hidI (Nat.le_trans HL31.out r3)
  replace HVabort := hidI (Nat.lt_of_lt_of_le HVabort.out r3)
  replace HVrel := hidI (Nat.lt_of_lt_of_le HVrel.out r3)
  replace HVro := hidI (Nat.lt_of_lt_of_le HVro.out r3)
  replace HVtl := hidI (Nat.lt_of_lt_of_le HVtl.out r3)
  replace HVfine := hidI (Nat.lt_of_lt_of_le HVfine.out r3)
  replace HKa := hidI (HKa.out.turn r2)
  have HC32 := hidI hec
  clear r1 r2 r3 hec x0 a0
  have x0 := HT32.out.x0
  have a0 := cell_of_block (o := 0) HKa.out.blk rfl
  go_wp2_with fail
  refine (txtell_any HT32.out OK.out  (by have := HK.out; omega)).mono ?_
  rintro e w33 ⟨rfl, own33, r1, r2, r3⟩
  generalize hec : c32.tell t = c33 at r1 r3
  have HT33 := hidI (r1)
  have HU33 := hidI (HU32.out.trans r2)
  have HL33 := hidI (Nat.le_trans HL32.out r3)
  replace HVabort := hidI (Nat.lt_of_lt_of_le HVabort.out r3)
  replace HVrel := hidI (Nat.lt_of_lt_of_le HVrel.out r3)
  replace HVro := hidI (Nat.lt_of_lt_of_le HVro.out r3)
  replace HVtl := hidI (Nat.lt_of_lt_of_le HVtl.out r3)
  replace HVfine := hidI (Nat.lt_of_lt_of_le HVfine.out r3)
  replace HKa := hidI (HKa.out.turn r2)
  have HC33 := hidI hec
  clear r1 r2 r3 hec x0 a0
  have x0 := HT33.out.x0
  have a0 := cell_of_block (o := 0) HKa.out.blk rfl
  go_wp2_with fail
  go_end0
  have q1 := HC1.out
  have q2 := HC2.out
  have q3 := HC3.out
  have q4 := HC4.out
  have q5 := HC5.out
  have q6 := HC6.out
  have q7 := HC7.out
  have q8 := HC8.out
  have q9 := HC9.out
  have q10 := HC10.out
  have q11 := HC11.out
  have q12 := HC12.out
  have q13 := HC13.out
  have q14 := HC14.out
  have q15 := HC15.out
  have q16 := HC16.out
  have q17 := HC17.out
  have q18 := HC18.out
  have q19 := HC19.out
  have q20 := HC20.out
  have q21 := HC21.out
  have q22 := HC22.out
  have q23 := HC23.out
  have q24 := HC24.out
  have q25 := HC25.out
  have q26 := HC26.out
  have q27 := HC27.out
  have q28 := HC28.out
  have q29 := HC29.out
  have q30 := HC30.out
  have q31 := HC31.out
  have q32 := HC32.out
  have q33 := HC33.out
  have prel := HFrel.out
  have pro := HFro.out
  have ptl := HFtl.out
  have pfine := HFfine.out
  subst q1 q2 q3 q4 q5 q6 q7 q8 q9 q10 q11 q12 q13 q14 q15 q16 q17 q18 q19 q20 q21 q22 q23 q24 q25 q26 q27 q28 q29 q30 q31 q32 q33
  subst prel pro ptl pfine
  exact ⟨rfl, own33, HT33.out, HU33.out, HL33.out⟩
end

section
open Go.RowKit Go.Maps

variable {w w' w1 w2 : World} {own own1 own2 : Nat → Prop} {bc k br : Nat} {tv : Value} {t : TxC}

def begC (t : TxC) (c : Cd) (j : Nat) : Cd := (([1, 2, 3, 6] : List Int).take j).foldl (fun c a => c.sto t a 7) c
theorem begC_4 (t : TxC) (c : Cd) : begC t c 4 = (((c.sto t 1 7).sto t 2 7).sto t 3 7).sto t 6 7 := rfl
def Cd.begin_ (t : TxC) (c0 : Cd) : Cd :=
  let c1 := c0.get t 1 4
  let c2 := c1.sto t 5 1
  let c3 := c2.sto t 1 7
  let c4 := c3.sto t 2 7
  let c5 := c4.sto t 3 7
  let c6 := c5.sto t 6 7
  let c7 := c6.put ⟨15, 0, 0, 7, 0, t.words + 1⟩
  let c8 := c7.sto t 0 0
  c8
set_option maxRecDepth 100000 in
set_option maxHeartbeats 4000000 in
theorem txbegin__any {c0 : Cd} (h : TxAt w own br bc tv t c0 k) (ok : TxOk t) (hk : k ≤ 1099509000000) :
    Calls Tryz.prog 87 #[.pointer (some ⟨br, 0, none⟩)] w (EmT own w br bc tv t c0 (c0.begin_ t) (k + 0)) := by
  have HT0 := hidI h
  have OK := hidI ok
  have HK := hidI hk
  have HU0 := hidI (Turn.refl own w)
  have HL0 := hidI (Nat.le_refl c0.labs.length)
  have x0 := HT0.out.x0
  clear h ok hk
  go_enter Tryz.func87, Tryz.ntmps87
  go_wp2_with fail
  refine (txget_any HT0.out OK.out 1 4 (by decide)).mono ?_
  rintro e w1 ⟨rfl, own1, r1, r2, r3⟩
  generalize hec : c0.get t 1 4 = c1 at r1 r3
  have HT1 := hidI (r1)
  have HU1 := hidI (HU0.out.trans r2)
  have HL1 := hidI (Nat.le_trans HL0.out r3)
  have HC1 := hidI hec
  clear r1 r2 r3 hec x0
  have x0 := HT1.out.x0
  go_wp2_with fail
  refine (txput_any HT1.out OK.out 5 1 (by decide)).mono ?_
  rintro e w2 ⟨rfl, own2, r1, r2, r3⟩
  generalize hec : c1.sto t 5 1 = c2 at r1 r3
  have HT2 := hidI (r1)
  have HU2 := hidI (HU1.out.trans r2)
  have HL2 := hidI (Nat.le_trans HL1.out r3)
  have HC2 := hidI hec
  clear r1 r2 r3 hec x0
  have x0 := HT2.out.x0
  go_wp2_with fail
  have HKl := hidI (show Keep (w2.alloc (.cells #[.int .i64 1, .int .i64 2, .int .i64 3, .int .i64 6] 3)) own2 w2.heap.size (.cells #[.int .i64 1, .int .i64 2, .int .i64 3, .int .i64 6] 3 (0, 0)) from Keep.new HT2.out.code _)
  have HTl := hidI (HT2.out.alloc (.cells #[.int .i64 1, .int .i64 2, .int .i64 3, .int .i64 6] 3))
  have HUl := hidI (HU2.out.alloc (.cells #[.int .i64 1, .int .i64 2, .int .i64 3, .int .i64 6] 3))
  obtain ⟨bl, hbl⟩ : ∃ x, x = w2.heap.size := ⟨_, rfl⟩
  rw [← hbl] at HKl ⊢
  generalize w2.alloc (.cells #[.int .i64 1, .int .i64 2, .int .i64 3, .int .i64 6] 3) = wl at HKl HTl HUl ⊢
  clear x0 hbl HT2 HU2
  go_loopw [10] (fun i wr => ∃ (j : Nat) (cj : Cd) (oj : Nat → Prop), j ≤ 4 ∧ i = .int .i64 (j : Int) ∧ Hid (TxAt wr oj br bc tv t cj k) ∧ Hid (Turn own w oj wr) ∧ Hid (c0.labs.length ≤ cj.labs.length) ∧ Hid (Keep wr oj bl (.cells #[.int .i64 1, .int .i64 2, .int .i64 3, .int .i64 6] 3 (0, 0))) ∧ Hid (begC t c2 j = cj)) (fun i _ => (4 - intOf i).toNat)
  case atStart => exact ⟨0, c2, own2, by omega, rfl, HTl, HUl, HL2, HKl, hidI rfl⟩
  case round =>
    obtain ⟨j, cj, oj, hj, rfl, HT, HU, HL, HK2, HC⟩ := hrel
    clear HTl HUl HKl
    have x0 := HT.out.x0
    have l0 := cell_of_block (o := 0) HK2.out.blk rfl
    have l1 := cell_of_block (o := 1) HK2.out.blk rfl
    have l2 := cell_of_block (o := 2) HK2.out.blk rfl
    have l3 := cell_of_block (o := 3) HK2.out.blk rfl
    rcases (by omega : j = 0 ∨ j = 1 ∨ j = 2 ∨ j = 3 ∨ j = 4) with rfl | rfl | rfl | rfl | rfl
    · go_wp2_with fail
      refine (txput_any HT.out OK.out 1 7 (by decide)).mono ?_
      rintro e w9 ⟨rfl, o9, r1, r2, r3⟩
      have HT9 := hidI r1
      have HU9 := hidI (HU.out.trans r2)
      have HL9 := hidI (Nat.le_trans HL.out r3)
      have HK9 := hidI (HK2.out.turn r2)
      clear r1 r2 r3 x0 l0 l1 l2 l3
      go_wp2_with fail
      exact ⟨⟨1, _, o9, by omega, by go_num, HT9, HU9, HL9, HK9, hidI (by rw [← HC.out]; rfl)⟩, by simp [intOf]⟩
    · go_wp2_with fail
      refine (txput_any HT.out OK.out 2 7 (by decide)).mono ?_
      rintro e w9 ⟨rfl, o9, r1, r2, r3⟩
      have HT9 := hidI r1
      have HU9 := hidI (HU.out.trans r2)
      have HL9 := hidI (Nat.le_trans HL.out r3)
      have HK9 := hidI (HK2.out.turn r2)
      clear r1 r2 r3 x0 l0 l1 l2 l3
      go_wp2_with fail
      exact ⟨⟨2, _, o9, by omega, by go_num, HT9, HU9, HL9, HK9, hidI (by rw [← HC.out]; rfl)⟩, by simp [intOf]⟩
    · go_wp2_with fail
      refine (txput_any HT.out OK.out 3 7 (by decide)).mono ?_
      rintro e w9 ⟨rfl, o9, r1, r2, r3⟩
      have HT9 := hidI r1
      have HU9 := hidI (HU.out.trans r2)
      have HL9 := hidI (Nat.le_trans HL.out r3)
      have HK9 := hidI (HK2.out.turn r2)
      clear r1 r2 r3 x0 l0 l1 l2 l3
      go_wp2_with fail
      exact ⟨⟨3, _, o9, by omega, by go_num, HT9, HU9, HL9, HK9, hidI (by rw [← HC.out]; rfl)⟩, by simp [intOf]⟩
    · go_wp2_with fail
      refine (txput_any HT.out OK.out 6 7 (by decide)).mono ?_
      rintro e w9 ⟨rfl, o9, r1, r2, r3⟩
      have HT9 := hidI r1
      have HU9 := hidI (HU.out.trans r2)
      have HL9 := hidI (Nat.le_trans HL.out r3)
      have HK9 := hidI (HK2.out.turn r2)
      clear r1 r2 r3 x0 l0 l1 l2 l3
      go_wp2_with fail
      exact ⟨⟨4, _, o9, by omega, by go_num, HT9, HU9, HL9, HK9, hidI (by rw [← HC.out]; rfl)⟩, by simp [intOf]⟩
    · obtain ⟨w6, rfl⟩ : ∃ x, x = wr := ⟨_, rfl⟩
      obtain ⟨c6, rfl⟩ : ∃ x, x = cj := ⟨_, rfl⟩
      obtain ⟨own6, rfl⟩ : ∃ x, x = oj := ⟨_, rfl⟩
      have HT6 := HT
      have HU6 := HU
      have HL6 := HL
      have HC6 := HC
      clear HT HU HL HC HK2 l0 l1 l2 l3
      have y1 := HT6.out.x1
      have y2 := HT6.out.x2
      have y3 := HT6.out.x3
      have ew : wrap64 (t.words + 1) = t.words + 1 := by have := OK.out.words; unfold wrap64; omega
      go_wp2_with fail
      go_region_held3 (fun w' => w'.cell? ⟨br, 0, none⟩ = some (.pointer (some ⟨bc, 0, none⟩)) ∧ w'.cell? ⟨br, 1, none⟩ = some (.int .i64 t.words) ∧ w'.cell? ⟨br, 2, none⟩ = some (tv) ∧ w'.cell? ⟨br, 3, none⟩ = some (.int .i64 t.size)) (refine ⟨?_, ?_, ?_, ?_⟩ <;> first | assumption | simp only [World.cell?_drew, *]) (first
        | (go_at_call 95; refine (put_any HTK.out.code ⟨15, 0, 0, 7, 0, t.words + 1⟩).mono ?_; rintro e w7 ⟨rfl, own7, r1, r2, r3⟩; generalize hec : c6.put ⟨15, 0, 0, 7, 0, t.words + 1⟩ = c7 at r1 r3; have HT7 := hidI (HTK.out.next r1 r2); have HU7 := hidI (HUK.out.trans r2); have HL7 := hidI (Nat.le_trans HL6.out r3); have HC7 := hidI hec; clear r1 r2 r3 hec x0 y1 y2 y3; have x0 := HT7.out.x0; have y1 := HT7.out.x1; have y2 := HT7.out.x2; have y3 := HT7.out.x3)
        | (go_at_call 118; refine (clock_any _ _ _ _).mono ?_; rintro e wk ⟨rfl, hb⟩; rw [ew]; have HTK := hidI (HT6.out.drew.below hb); have HUK := hidI (HU6.out.drew.below hb); clear hb y1 y2 y3 x0; have x0 := HTK.out.x0; have y1 := HTK.out.x1; have y2 := HTK.out.x2; have y3 := HTK.out.x3)
        )
      clear HTK
      clear HUK
      clear ew y1 y2 y3
      go_wp2_with fail
      refine (txput_any HT7.out OK.out 0 0 (by decide)).mono ?_
      rintro e w8 ⟨rfl, own8, r1, r2, r3⟩
      generalize hec : c7.sto t 0 0 = c8 at r1 r3
      have HT8 := hidI (r1)
      have HU8 := hidI (HU7.out.trans r2)
      have HL8 := hidI (Nat.le_trans HL7.out r3)
      have HC8 := hidI hec
      clear r1 r2 r3 hec x0
      have x0 := HT8.out.x0
      go_wp2_with fail
      go_end0
      have q1 := HC1.out
      have q2 := HC2.out
      have q6 := HC6.out
      have q7 := HC7.out
      have q8 := HC8.out
      rw [begC_4] at q6
      subst q1 q2 q6 q7 q8
      exact ⟨rfl, own8, HT8.out, HU8.out, HL8.out⟩

def Cd.once_r (t : TxC) (oth : Int) (oat : Int) (ov : Int) (abort : Nat) (c0 : Cd) : Cd :=
  let c1 := c0.set 1 oat
  let c2 := c1.read t abort
  let c3 := c2.load 1 7 t.sum
  let c4 := c3.calc 1 1 2
  let c5 := c4.store 7 t.sum 1
  c5
set_option maxRecDepth 100000 in
set_option maxHeartbeats 4000000 in
theorem txonce_r_any {c0 : Cd} {abort : Nat} (h : TxAt w own br bc tv t c0 k) (ok : TxOk t) (oth : Int) (oat : Int) (ov : Int) (hlabort : abort < c0.labs.length) (hk : k ≤ 1099509000000) :
    Calls Tryz.prog 89 #[.pointer (some ⟨br, 0, none⟩), .agg #[.int .i64 oth, .int .u8 2, .int .i64 oat, .int .i64 ov], .int .i64 (abort : Int)] w (EmT own w br bc tv t c0 (c0.once_r t oth oat ov abort) (k + 17)) := by
  have HT0 := hidI h
  have OK := hidI ok
  have HK := hidI hk
  have HU0 := hidI (Turn.refl own w)
  have HL0 := hidI (Nat.le_refl c0.labs.length)
  have HVabort := hidI hlabort
  have x0 := HT0.out.x0
  have x11 := HT0.out.x11
  clear h ok hk hlabort
  go_enter Tryz.func89, Tryz.ntmps89
  have hbr := lt_of_block HT0.out.row.blk
  go_wp2_with fail
  obtain ⟨wb, hwb⟩ : ∃ x, x = (w.alloc (.cells #[.int .i64 oth, .int .u8 2, .int .i64 oat, .int .i64 ov] 96)) := ⟨_, rfl⟩
  have HTB := hidI (show TxAt wb own br bc tv t c0 k from by rw [hwb]; exact (HT0.out.alloc (.cells #[.int .i64 oth, .int .u8 2, .int .i64 oat, .int .i64 ov] 96)))
  have HUB := hidI (show Turn own w own wb from by rw [hwb]; exact (Turn.refl own w).alloc _)
  have HKo := hidI (show Keep wb own (w.heap.size) (.cells #[.int .i64 oth, .int .u8 2, .int .i64 oat, .int .i64 ov] 96) from by rw [hwb]; exact Keep.new HT0.out.code _)
  obtain ⟨bo, hbo⟩ : ∃ x, x = w.heap.size := ⟨_, rfl⟩
  rw [← hbo] at HKo ⊢
  rw [← hwb]
  clear hwb hbr hbo x0 HT0 HU0 x11
  have HT0 := HTB
  have HU0 := HUB
  clear HTB HUB
  have x0 := HT0.out.x0
  have x11 := HT0.out.x11
  have o0 := cell_of_block (o := 0) HKo.out.blk rfl
  have o1 := cell_of_block (o := 1) HKo.out.blk rfl
  have o2 := cell_of_block (o := 2) HKo.out.blk rfl
  have o3 := cell_of_block (o := 3) HKo.out.blk rfl
  go_wp2_with fail
  go_still_tail 7, (by kernel_rfl)
  go_wp2_with fail
  refine (emset_any HT0.out.code.drew 1 oat).mono ?_
  rintro e w1 ⟨rfl, own1, r1, r2, r3⟩
  generalize hec : c0.set 1 oat = c1 at r1 r3
  have HT1 := hidI (HT0.out.drew.next r1 r2)
  have HU1 := hidI (HU0.out.drew.trans r2)
  have HL1 := hidI (Nat.le_trans HL0.out r3)
  replace HVabort := hidI (Nat.lt_of_lt_of_le HVabort.out r3)
  replace HKo := hidI (HKo.out.drew.turn r2)
  have HC1 := hidI hec
  clear r1 r2 r3 hec x0 x11 o0 o1 o2 o3
  have x0 := HT1.out.x0
  have x11 := HT1.out.x11
  have o0 := cell_of_block (o := 0) HKo.out.blk rfl
  have o1 := cell_of_block (o := 1) HKo.out.blk rfl
  have o2 := cell_of_block (o := 2) HKo.out.blk rfl
  have o3 := cell_of_block (o := 3) HKo.out.blk rfl
  go_wp2_with fail
  refine (txread_any HT1.out OK.out HVabort.out  (by have := HK.out; omega)).mono ?_
  rintro e w2 ⟨rfl, own2, r1, r2, r3⟩
  generalize hec : c1.read t abort = c2 at r1 r3
  have HT2 := hidI (r1)
  have HU2 := hidI (HU1.out.trans r2)
  have HL2 := hidI (Nat.le_trans HL1.out r3)
  replace HVabort := hidI (Nat.lt_of_lt_of_le HVabort.out r3)
  replace HKo := hidI (HKo.out.turn r2)
  have HC2 := hidI hec
  clear r1 r2 r3 hec x0 x11 o0 o1 o2 o3
  have x0 := HT2.out.x0
  have x11 := HT2.out.x11
  have o0 := cell_of_block (o := 0) HKo.out.blk rfl
  have o1 := cell_of_block (o := 1) HKo.out.blk rfl
  have o2 := cell_of_block (o := 2) HKo.out.blk rfl
  have o3 := cell_of_block (o := 3) HKo.out.blk rfl
  go_wp2_with fail
  go_still_tail 9, (by kernel_rfl)
  go_wp2_with fail
  refine (emload_any HT2.out.code.drew 1 7 t.sum).mono ?_
  rintro e w3 ⟨rfl, own3, r1, r2, r3⟩
  generalize hec : c2.load 1 7 t.sum = c3 at r1 r3
  have HT3 := hidI (HT2.out.drew.next r1 r2)
  have HU3 := hidI (HU2.out.drew.trans r2)
  have HL3 := hidI (Nat.le_trans HL2.out r3)
  replace HVabort := hidI (Nat.lt_of_lt_of_le HVabort.out r3)
  replace HKo := hidI (HKo.out.drew.turn r2)
  have HC3 := hidI hec
  clear r1 r2 r3 hec x0 x11 o0 o1 o2 o3
  have x0 := HT3.out.x0
  have x11 := HT3.out.x11
  have o0 := cell_of_block (o := 0) HKo.out.blk rfl
  have o1 := cell_of_block (o := 1) HKo.out.blk rfl
  have o2 := cell_of_block (o := 2) HKo.out.blk rfl
  have o3 := cell_of_block (o := 3) HKo.out.blk rfl
  go_wp2_with fail
  refine (emcalc_any HT3.out.code 1 1 2).mono ?_
  rintro e w4 ⟨rfl, own4, r1, r2, r3⟩
  generalize hec : c3.calc 1 1 2 = c4 at r1 r3
  have HT4 := hidI (HT3.out.next r1 r2)
  have HU4 := hidI (HU3.out.trans r2)
  have HL4 := hidI (Nat.le_trans HL3.out r3)
  replace HVabort := hidI (Nat.lt_of_lt_of_le HVabort.out r3)
  replace HKo := hidI (HKo.out.turn r2)
  have HC4 := hidI hec
  clear r1 r2 r3 hec x0 x11 o0 o1 o2 o3
  have x0 := HT4.out.x0
  have x11 := HT4.out.x11
  have o0 := cell_of_block (o := 0) HKo.out.blk rfl
  have o1 := cell_of_block (o := 1) HKo.out.blk rfl
  have o2 := cell_of_block (o := 2) HKo.out.blk rfl
  have o3 := cell_of_block (o := 3) HKo.out.blk rfl
  go_wp2_with fail
  go_still_tail 9, (by kernel_rfl)
  go_wp2_with fail
  refine (emstore_any HT4.out.code.drew 7 t.sum 1).mono ?_
  rintro e w5 ⟨rfl, own5, r1, r2, r3⟩
  generalize hec : c4.store 7 t.sum 1 = c5 at r1 r3
  have HT5 := hidI (HT4.out.drew.next r1 r2)
  have HU5 := hidI (HU4.out.drew.trans r2)
  have HL5 := hidI (Nat.le_trans HL4.out r3)
  replace HVabort := hidI (Nat.lt_of_lt_of_le HVabort.out r3)
  replace HKo := hidI (HKo.out.drew.turn r2)
  have HC5 := hidI hec
  clear r1 r2 r3 hec x0 x11 o0 o1 o2 o3
  have x0 := HT5.out.x0
  have x11 := HT5.out.x11
  have o0 := cell_of_block (o := 0) HKo.out.blk rfl
  have o1 := cell_of_block (o := 1) HKo.out.blk rfl
  have o2 := cell_of_block (o := 2) HKo.out.blk rfl
  have o3 := cell_of_block (o := 3) HKo.out.blk rfl
  go_wp2_with fail
  go_end0
  have q1 := HC1.out
  have q2 := HC2.out
  have q3 := HC3.out
  have q4 := HC4.out
  have q5 := HC5.out
  subst q1 q2 q3 q4 q5
  exact ⟨rfl, own5, HT5.out, HU5.out, HL5.out⟩

def Cd.once_w (t : TxC) (oth : Int) (oat : Int) (ov : Int) (abort : Nat) (c0 : Cd) : Cd :=
  let c1 := c0.set 1 oat
  let c2 := c1.load 2 7 t.sum
  let c3 := c2.with_ 1 2 ov 3
  let c4 := c3.write t
  c4
set_option maxRecDepth 100000 in
set_option maxHeartbeats 4000000 in
theorem txonce_w_any {c0 : Cd} {abort : Nat} (h : TxAt w own br bc tv t c0 k) (ok : TxOk t) (oth : Int) (oat : Int) (ov : Int) (hlabort : abort < c0.labs.length) (hk : k ≤ 1099509000000) :
    Calls Tryz.prog 89 #[.pointer (some ⟨br, 0, none⟩), .agg #[.int .i64 oth, .int .u8 3, .int .i64 oat, .int .i64 ov], .int .i64 (abort : Int)] w (EmT own w br bc tv t c0 (c0.once_w t oth oat ov abort) (k + 11)) := by
  have HT0 := hidI h
  have OK := hidI ok
  have HK := hidI hk
  have HU0 := hidI (Turn.refl own w)
  have HL0 := hidI (Nat.le_refl c0.labs.length)
  have HVabort := hidI hlabort
  have x0 := HT0.out.x0
  have x11 := HT0.out.x11
  clear h ok hk hlabort
  go_enter Tryz.func89, Tryz.ntmps89
  have hbr := lt_of_block HT0.out.row.blk
  go_wp2_with fail
  obtain ⟨wb, hwb⟩ : ∃ x, x = (w.alloc (.cells #[.int .i64 oth, .int .u8 3, .int .i64 oat, .int .i64 ov] 96)) := ⟨_, rfl⟩
  have HTB := hidI (show TxAt wb own br bc tv t c0 k from by rw [hwb]; exact (HT0.out.alloc (.cells #[.int .i64 oth, .int .u8 3, .int .i64 oat, .int .i64 ov] 96)))
  have HUB := hidI (show Turn own w own wb from by rw [hwb]; exact (Turn.refl own w).alloc _)
  have HKo := hidI (show Keep wb own (w.heap.size) (.cells #[.int .i64 oth, .int .u8 3, .int .i64 oat, .int .i64 ov] 96) from by rw [hwb]; exact Keep.new HT0.out.code _)
  obtain ⟨bo, hbo⟩ : ∃ x, x = w.heap.size := ⟨_, rfl⟩
  rw [← hbo] at HKo ⊢
  rw [← hwb]
  clear hwb hbr hbo x0 HT0 HU0 x11
  have HT0 := HTB
  have HU0 := HUB
  clear HTB HUB
  have x0 := HT0.out.x0
  have x11 := HT0.out.x11
  have o0 := cell_of_block (o := 0) HKo.out.blk rfl
  have o1 := cell_of_block (o := 1) HKo.out.blk rfl
  have o2 := cell_of_block (o := 2) HKo.out.blk rfl
  have o3 := cell_of_block (o := 3) HKo.out.blk rfl
  go_wp2_with fail
  go_still_tail 7, (by kernel_rfl)
  go_wp2_with fail
  refine (emset_any HT0.out.code.drew 1 oat).mono ?_
  rintro e w1 ⟨rfl, own1, r1, r2, r3⟩
  generalize hec : c0.set 1 oat = c1 at r1 r3
  have HT1 := hidI (HT0.out.drew.next r1 r2)
  have HU1 := hidI (HU0.out.drew.trans r2)
  have HL1 := hidI (Nat.le_trans HL0.out r3)
  replace HVabort := hidI (Nat.lt_of_lt_of_le HVabort.out r3)
  replace HKo := hidI (HKo.out.drew.turn r2)
  have HC1 := hidI hec
  clear r1 r2 r3 hec x0 x11 o0 o1 o2 o3
  have x0 := HT1.out.x0
  have x11 := HT1.out.x11
  have o0 := cell_of_block (o := 0) HKo.out.blk rfl
  have o1 := cell_of_block (o := 1) HKo.out.blk rfl
  have o2 := cell_of_block (o := 2) HKo.out.blk rfl
  have o3 := cell_of_block (o := 3) HKo.out.blk rfl
  go_wp2_with fail
  go_still_tail 9, (by kernel_rfl)
  go_wp2_with fail
  refine (emload_any HT1.out.code.drew 2 7 t.sum).mono ?_
  rintro e w2 ⟨rfl, own2, r1, r2, r3⟩
  generalize hec : c1.load 2 7 t.sum = c2 at r1 r3
  have HT2 := hidI (HT1.out.drew.next r1 r2)
  have HU2 := hidI (HU1.out.drew.trans r2)
  have HL2 := hidI (Nat.le_trans HL1.out r3)
  replace HVabort := hidI (Nat.lt_of_lt_of_le HVabort.out r3)
  replace HKo := hidI (HKo.out.drew.turn r2)
  have HC2 := hidI hec
  clear r1 r2 r3 hec x0 x11 o0 o1 o2 o3
  have x0 := HT2.out.x0
  have x11 := HT2.out.x11
  have o0 := cell_of_block (o := 0) HKo.out.blk rfl
  have o1 := cell_of_block (o := 1) HKo.out.blk rfl
  have o2 := cell_of_block (o := 2) HKo.out.blk rfl
  have o3 := cell_of_block (o := 3) HKo.out.blk rfl
  go_wp2_with fail
  go_still_tail 7, (by kernel_rfl)
  go_wp2_with fail
  refine (emwith_any HT2.out.code.drew 1 2 ov 3).mono ?_
  rintro e w3 ⟨rfl, own3, r1, r2, r3⟩
  generalize hec : c2.with_ 1 2 ov 3 = c3 at r1 r3
  have HT3 := hidI (HT2.out.drew.next r1 r2)
  have HU3 := hidI (HU2.out.drew.trans r2)
  have HL3 := hidI (Nat.le_trans HL2.out r3)
  replace HVabort := hidI (Nat.lt_of_lt_of_le HVabort.out r3)
  replace HKo := hidI (HKo.out.drew.turn r2)
  have HC3 := hidI hec
  clear r1 r2 r3 hec x0 x11 o0 o1 o2 o3
  have x0 := HT3.out.x0
  have x11 := HT3.out.x11
  have o0 := cell_of_block (o := 0) HKo.out.blk rfl
  have o1 := cell_of_block (o := 1) HKo.out.blk rfl
  have o2 := cell_of_block (o := 2) HKo.out.blk rfl
  have o3 := cell_of_block (o := 3) HKo.out.blk rfl
  go_wp2_with fail
  refine (txwrite_any HT3.out OK.out  (by have := HK.out; omega)).mono ?_
  rintro e w4 ⟨rfl, own4, r1, r2, r3⟩
  generalize hec : c3.write t = c4 at r1 r3
  have HT4 := hidI (r1)
  have HU4 := hidI (HU3.out.trans r2)
  have HL4 := hidI (Nat.le_trans HL3.out r3)
  replace HVabort := hidI (Nat.lt_of_lt_of_le HVabort.out r3)
  replace HKo := hidI (HKo.out.turn r2)
  have HC4 := hidI hec
  clear r1 r2 r3 hec x0 x11 o0 o1 o2 o3
  have x0 := HT4.out.x0
  have x11 := HT4.out.x11
  have o0 := cell_of_block (o := 0) HKo.out.blk rfl
  have o1 := cell_of_block (o := 1) HKo.out.blk rfl
  have o2 := cell_of_block (o := 2) HKo.out.blk rfl
  have o3 := cell_of_block (o := 3) HKo.out.blk rfl
  go_wp2_with fail
  go_end0
  have q1 := HC1.out
  have q2 := HC2.out
  have q3 := HC3.out
  have q4 := HC4.out
  subst q1 q2 q3 q4
  exact ⟨rfl, own4, HT4.out, HU4.out, HL4.out⟩
end

section
open Go.RowKit Go.Maps

variable {w w' w1 w2 : World} {own own1 own2 : Nat → Prop} {bc k br : Nat} {tv : Value} {t : TxC}

/-- one thing that a row does -/
def Cd.once (t : TxC) (o : Tx) (abort : Nat) (c : Cd) : Cd := if o.kind = 2 then c.once_r t o.th o.at_ o.v abort else c.once_w t o.th o.at_ o.v abort
theorem txonce_any {c0 : Cd} {abort : Nat} (h : TxAt w own br bc tv t c0 k) (ok : TxOk t) (oth okind oat ov : Int) (hkd : okind = 2 ∨ okind = 3) (hl : abort < c0.labs.length) (hk : k ≤ 1099509000000) :
    Calls Tryz.prog 89 #[.pointer (some ⟨br, 0, none⟩), .agg #[.int .i64 oth, .int .u8 okind, .int .i64 oat, .int .i64 ov], .int .i64 (abort : Int)] w (EmT own w br bc tv t c0 (c0.once t ⟨oth, okind, oat, ov⟩ abort) (k + 17)) := by
  rcases hkd with rfl | rfl
  · exact (txonce_r_any h ok oth oat ov hl hk).mono fun e w' he => by
      have : c0.once t ⟨oth, 2, oat, ov⟩ abort = c0.once_r t oth oat ov abort := by unfold Cd.once; rw [if_pos rfl]
      rw [this]; exact he
  · exact (txonce_w_any h ok oth oat ov hl hk).mono fun e w' he => by
      have : c0.once t ⟨oth, 3, oat, ov⟩ abort = c0.once_w t oth oat ov abort := by unfold Cd.once; rw [if_neg (show ¬ (3 : Int) = 2 by decide)]
      rw [this]
      obtain ⟨h1, own', h2, h3, h4⟩ := he
      exact ⟨h1, own', h2.more (by omega), h3, h4⟩
def encTxD (o : Tx) : List Value := [.int .i64 o.th, .int .u8 o.kind, .int .i64 o.at_, .int .i64 o.v]
theorem encTxD_len : ∀ o, (encTxD o).length = 4 := fun _ => rfl
/-- a list that is read, beside the blocks that are written -/
structure RdK (w : World) (own : Nat → Prop) (v : Value) (l : List Tx) : Prop where
  rd : RdT encTxD w 4 v l
  no : 0 < l.length → ∀ b, v.ownBlock = some b → ¬ own b
theorem RdK.turn {v : Value} {l : List Tx} (h : RdK w own v l) (ht : Turn own w own1 w1) : RdK w1 own1 v l := by
  rcases Nat.eq_zero_or_pos l.length with e | e
  · obtain ⟨h1, ao, cap, hv, h2, h3⟩ := h.rd
    exact ⟨⟨h1, ao, cap, hv, h2, fun q => by omega⟩, fun q => by omega⟩
  · refine ⟨h.rd.chg ht.chg (h.no e), fun q b hb ho => ?_⟩
    obtain ⟨b', hb', hlt⟩ := h.rd.lt e
    rw [hb] at hb'
    simp only [Option.some.injEq] at hb'
    subst hb'
    exact h.no e b hb (ht.less b hlt ho)
theorem RdK.below {v : Value} {l : List Tx} (h : RdK w own v l) (hb : Below w.heap.size w w') : RdK w' own v l := ⟨Rd.below h.rd hb, h.no⟩
theorem RdK.drew {v : Value} {l : List Tx} (h : RdK w own v l) : RdK w.drew own v l := ⟨h.rd, h.no⟩

def Cd.txs (t : TxC) (l : List Tx) (c0 : Cd) : Cd :=
  let begin := c0.labs.length
  let c1 := c0.label
  let abort := c1.labs.length
  let c2 := c1.label
  let over := c2.labs.length
  let c3 := c2.label
  let c4 := c3.here begin
  let c5 := c4.begin_ t
  let c6 := c5.store 7 t.sum 7
  let c7 := l.foldl (fun c o => c.once t o abort) c6
  let c8 := c7.commit t abort
  let c9 := c8.load 1 7 t.sum
  let c10 := c9.out 1
  let c11 := c10.jump over
  let c12 := c11.here abort
  let c13 := c12.abort t
  let c14 := c13.jump begin
  let c15 := c14.here over
  c15
set_option maxRecDepth 100000 in
set_option maxHeartbeats 4000000 in
theorem txtxs_any {c0 : Cd} {l : List Tx} {lo : Option Addr} {lc : Nat} (h : TxAt w own br bc tv t c0 k) (ok : TxOk t) (hr : RdK w own (.slice lo l.length lc) l) (hki : ∀ o ∈ l, o.kind = 2 ∨ o.kind = 3) (hn : l.length ≤ 262144) (hk : k + 17 * l.length ≤ 1099506000000) :
    Calls Tryz.prog 56 #[.pointer (some ⟨br, 0, none⟩), .slice lo l.length lc] w (EmT own w br bc tv t c0 (c0.txs t l) (k + 65 + 17 * l.length)) := by
  have HT0 := hidI h
  have OK := hidI ok
  have HK := hidI hk
  have HU0 := hidI (Turn.refl own w)
  have HL0 := hidI (Nat.le_refl c0.labs.length)
  have x0 := HT0.out.x0
  have x11 := HT0.out.x11
  have HR := hidI hr
  have HKI := hidI hki
  have HN := hidI hn
  clear hr hki hn
  clear h ok hk
  go_enter Tryz.func56, Tryz.ntmps56
  go_wp2_with fail
  go_region_held3 (fun w' => w'.cell? ⟨br, 0, none⟩ = some (.pointer (some ⟨bc, 0, none⟩))) (first | assumption | simp only [World.cell?_drew, *]) (first
    | (go_at_call 85; refine (label_any HT2.out.code (by have := HK.out; omega)).mono ?_; rintro e w3 ⟨rfl, own3, r1, r2, r3⟩; have r4 : c2.labs.length < (c2.label).labs.length := (by simp [Cd.label]); generalize hec : c2.label = c3 at r1 r3 r4; obtain ⟨over, hf⟩ : ∃ x, x = c2.labs.length := ⟨_, rfl⟩; rw [← hf] at r4 ⊢; have HT3 := hidI (HT2.out.next r1 r2); have HU3 := hidI (HU2.out.trans r2); have HL3 := hidI (Nat.le_trans HL2.out r3); replace HVbegin := hidI (Nat.lt_of_lt_of_le HVbegin.out r3); replace HVabort := hidI (Nat.lt_of_lt_of_le HVabort.out r3); have HVover := hidI r4; have HFover := hidI hf; replace HR := hidI (HR.out.turn r2); have HC3 := hidI hec; clear r1 r2 r3 hec r4 hf x0 x11; have x0 := HT3.out.x0; have x11 := HT3.out.x11)
    | (go_at_call 85; refine (label_any HT1.out.code (by have := HK.out; omega)).mono ?_; rintro e w2 ⟨rfl, own2, r1, r2, r3⟩; have r4 : c1.labs.length < (c1.label).labs.length := (by simp [Cd.label]); generalize hec : c1.label = c2 at r1 r3 r4; obtain ⟨abort, hf⟩ : ∃ x, x = c1.labs.length := ⟨_, rfl⟩; rw [← hf] at r4 ⊢; have HT2 := hidI (HT1.out.next r1 r2); have HU2 := hidI (HU1.out.trans r2); have HL2 := hidI (Nat.le_trans HL1.out r3); replace HVbegin := hidI (Nat.lt_of_lt_of_le HVbegin.out r3); have HVabort := hidI r4; have HFabort := hidI hf; replace HR := hidI (HR.out.turn r2); have HC2 := hidI hec; clear r1 r2 r3 hec r4 hf x0 x11; have x0 := HT2.out.x0; have x11 := HT2.out.x11)
    | (go_at_call 85; refine (label_any HT0.out.drew.code (by have := HK.out; omega)).mono ?_; rintro e w1 ⟨rfl, own1, r1, r2, r3⟩; have r4 : c0.labs.length < (c0.label).labs.length := (by simp [Cd.label]); generalize hec : c0.label = c1 at r1 r3 r4; obtain ⟨begin, hf⟩ : ∃ x, x = c0.labs.length := ⟨_, rfl⟩; rw [← hf] at r4 ⊢; have HT1 := hidI (HT0.out.drew.next r1 r2); have HU1 := hidI (HU0.out.drew.trans r2); have HL1 := hidI (Nat.le_trans HL0.out r3); have HVbegin := hidI r4; have HFbegin := hidI hf; replace HR := hidI (HR.out.drew.turn r2); have HC1 := hidI hec; clear r1 r2 r3 hec r4 hf x0 x11; have x0 := HT1.out.x0; have x11 := HT1.out.x11)
    )
  go_wp2_with fail
  refine (here_any HT3.out.code HVbegin.out).mono ?_
  rintro e w4 ⟨rfl, own4, r1, r2, r3⟩
  generalize hec : c3.here begin = c4 at r1 r3
  have HT4 := hidI (HT3.out.next r1 r2)
  have HU4 := hidI (HU3.out.trans r2)
  have HL4 := hidI (Nat.le_trans HL3.out r3)
  replace HVbegin := hidI (Nat.lt_of_lt_of_le HVbegin.out r3)
  replace HVabort := hidI (Nat.lt_of_lt_of_le HVabort.out r3)
  replace HVover := hidI (Nat.lt_of_lt_of_le HVover.out r3)
  replace HR := hidI (HR.out.turn r2)
  have HC4 := hidI hec
  clear r1 r2 r3 hec x0 x11
  have x0 := HT4.out.x0
  have x11 := HT4.out.x11
  go_wp2_with fail
  refine (txbegin__any HT4.out OK.out  (by have := HK.out; omega)).mono ?_
  rintro e w5 ⟨rfl, own5, r1, r2, r3⟩
  generalize hec : c4.begin_ t = c5 at r1 r3
  have HT5 := hidI (r1)
  have HU5 := hidI (HU4.out.trans r2)
  have HL5 := hidI (Nat.le_trans HL4.out r3)
  replace HVbegin := hidI (Nat.lt_of_lt_of_le HVbegin.out r3)
  replace HVabort := hidI (Nat.lt_of_lt_of_le HVabort.out r3)
  replace HVover := hidI (Nat.lt_of_lt_of_le HVover.out r3)
  replace HR := hidI (HR.out.turn r2)
  have HC5 := hidI hec
  clear r1 r2 r3 hec x0 x11
  have x0 := HT5.out.x0
  have x11 := HT5.out.x11
  go_wp2_with fail
  go_still_tail 9, (by kernel_rfl)
  go_wp2_with fail
  refine (emstore_any HT5.out.code.drew 7 t.sum 7).mono ?_
  rintro e w6 ⟨rfl, own6, r1, r2, r3⟩
  generalize hec : c5.store 7 t.sum 7 = c6 at r1 r3
  have HT6 := hidI (HT5.out.drew.next r1 r2)
  have HU6 := hidI (HU5.out.drew.trans r2)
  have HL6 := hidI (Nat.le_trans HL5.out r3)
  replace HVbegin := hidI (Nat.lt_of_lt_of_le HVbegin.out r3)
  replace HVabort := hidI (Nat.lt_of_lt_of_le HVabort.out r3)
  replace HVover := hidI (Nat.lt_of_lt_of_le HVover.out r3)
  replace HR := hidI (HR.out.drew.turn r2)
  have HC6 := hidI hec
  clear r1 r2 r3 hec x0 x11
  have x0 := HT6.out.x0
  have x11 := HT6.out.x11
  go_wp2_with fail
  have hlen := HN.out
  go_loopw [50] (fun i wr => ∃ (j : Nat) (cj : Cd) (oj : Nat → Prop), j ≤ l.length ∧ i = .int .i64 (j : Int) ∧ Hid (TxAt wr oj br bc tv t cj (k + 3 + 17 * j)) ∧ Hid (Turn own w oj wr) ∧ Hid (c6.labs.length ≤ cj.labs.length) ∧ Hid (RdK wr oj (.slice lo l.length lc) l) ∧ Hid ((l.take j).foldl (fun c o => c.once t o abort) c6 = cj)) (fun i _ => ((l.length : Int) - intOf i).toNat)
  case atStart => exact ⟨0, c6, own6, by omega, rfl, hidI (HT6.out.more (by omega)), HU6, hidI (Nat.le_refl _), HR, hidI rfl⟩
  case round =>
    obtain ⟨j, cj, oj, hj, rfl, HT, HU, HM, HR2, HC⟩ := hrel
    clear HT6 HU6 HR
    have hlen := HN.out
    by_cases hlt : j < l.length
    · obtain ⟨⟨oth, okind, oat, ov⟩, hx⟩ := some_at hlt
      obtain ⟨g, off, hlo, hg, hc⟩ := RdT.at encTxD_len HR2.out.rd hx
      subst hlo
      have d0 := hc 0 _ rfl
      have d1 := hc 1 _ rfl
      have d2 := hc 2 _ rfl
      have d3 := hc 3 _ rfl
      simp only [Nat.add_zero] at d0
      have HKD := hidI (show okind = 2 ∨ okind = 3 from HKI.out _ (List.mem_of_getElem? hx))
      have HX := hidI hx
      have hw1 : IntKind.i64.wrap ((j : Int) + 1) = j + 1 := IntWalk.i64_in _ (by omega)
      clear hc hx
      go_wp2_with fail
      have hb9 : Below wr.heap.size wr (wr.alloc (.cells #[.int .i64 oth, .int .u8 okind, .int .i64 oat, .int .i64 ov] 96)) := (Below.refl _ _).alloc (Nat.le_refl _) _
      have HB9 := hidI hb9
      clear hb9 d0 d1 d2 d3
      refine (txonce_any (HT.out.below HB9.out) OK.out oth okind oat ov HKD.out (Nat.lt_of_lt_of_le HVabort.out HM.out) (by have := HK.out; omega)).mono ?_
      rintro e w9 ⟨rfl, o9, r1, r2, r3⟩
      have HT9 := hidI (show TxAt w9 o9 br bc tv t _ (k + 3 + 17 * (j + 1)) from r1.more (by omega))
      have HU9 := hidI ((HU.out.below HB9.out).trans r2)
      have HL9 := hidI (Nat.le_trans HM.out r3)
      have HR9 := hidI ((HR2.out.below HB9.out).turn r2)
      clear r1 r2 r3
      go_wp2_with fail
      exact ⟨⟨j + 1, _, o9, by omega, by go_num, HT9, HU9, HL9, HR9, hidI (by rw [take_snoc HX.out, List.foldl_append, HC.out]; rfl)⟩, by simp [intOf]; omega⟩
    · obtain rfl : j = l.length := by omega
      obtain ⟨w7, rfl⟩ : ∃ x, x = wr := ⟨_, rfl⟩
      obtain ⟨c7, rfl⟩ : ∃ x, x = cj := ⟨_, rfl⟩
      obtain ⟨own7, rfl⟩ : ∃ x, x = oj := ⟨_, rfl⟩
      have HT7 := HT
      have HU7 := HU
      have HL7 := hidI (Nat.le_trans HL6.out HM.out)
      have HC7 := hidI (show l.foldl (fun c o => c.once t o abort) c6 = c7 from by have := HC.out; rwa [List.take_length] at this)
      replace HVbegin := hidI (Nat.lt_of_lt_of_le HVbegin.out HM.out)
      replace HVabort := hidI (Nat.lt_of_lt_of_le HVabort.out HM.out)
      replace HVover := hidI (Nat.lt_of_lt_of_le HVover.out HM.out)
      clear HT HU HM HC HR2 hlen x0 x11
      have x0 := HT7.out.x0
      have x11 := HT7.out.x11
      go_wp2_with fail
      refine (txcommit_any HT7.out OK.out HVabort.out  (by have := HK.out; omega)).mono ?_
      rintro e w8 ⟨rfl, own8, r1, r2, r3⟩
      generalize hec : c7.commit t abort = c8 at r1 r3
      have HT8 := hidI (r1)
      have HU8 := hidI (HU7.out.trans r2)
      have HL8 := hidI (Nat.le_trans HL7.out r3)
      replace HVbegin := hidI (Nat.lt_of_lt_of_le HVbegin.out r3)
      replace HVabort := hidI (Nat.lt_of_lt_of_le HVabort.out r3)
      replace HVover := hidI (Nat.lt_of_lt_of_le HVover.out r3)
      have HC8 := hidI hec
      clear r1 r2 r3 hec x0 x11
      have x0 := HT8.out.x0
      have x11 := HT8.out.x11
      go_wp2_with fail
      go_still_tail 9, (by kernel_rfl)
      go_wp2_with fail
      refine (emload_any HT8.out.code.drew 1 7 t.sum).mono ?_
      rintro e w9 ⟨rfl, own9, r1, r2, r3⟩
      generalize hec : c8.load 1 7 t.sum = c9 at r1 r3
      have HT9 := hidI (HT8.out.drew.next r1 r2)
      have HU9 := hidI (HU8.out.drew.trans r2)
      have HL9 := hidI (Nat.le_trans HL8.out r3)
      replace HVbegin := hidI (Nat.lt_of_lt_of_le HVbegin.out r3)
      replace HVabort := hidI (Nat.lt_of_lt_of_le HVabort.out r3)
      replace HVover := hidI (Nat.lt_of_lt_of_le HVover.out r3)
      have HC9 := hidI hec
      clear r1 r2 r3 hec x0 x11
      have x0 := HT9.out.x0
      have x11 := HT9.out.x11
      go_wp2_with fail
      refine (emout_any HT9.out.code 1).mono ?_
      rintro e w10 ⟨rfl, own10, r1, r2, r3⟩
      generalize hec : c9.out 1 = c10 at r1 r3
      have HT10 := hidI (HT9.out.next r1 r2)
      have HU10 := hidI (HU9.out.trans r2)
      have HL10 := hidI (Nat.le_trans HL9.out r3)
      replace HVbegin := hidI (Nat.lt_of_lt_of_le HVbegin.out r3)
      replace HVabort := hidI (Nat.lt_of_lt_of_le HVabort.out r3)
      replace HVover := hidI (Nat.lt_of_lt_of_le HVover.out r3)
      have HC10 := hidI hec
      clear r1 r2 r3 hec x0 x11
      have x0 := HT10.out.x0
      have x11 := HT10.out.x11
      go_wp2_with fail
      refine (jump_any HT10.out.code HVover.out (by have := HK.out; omega)).mono ?_
      rintro e w11 ⟨rfl, own11, r1, r2, r3⟩
      generalize hec : c10.jump over = c11 at r1 r3
      have HT11 := hidI (HT10.out.next r1 r2)
      have HU11 := hidI (HU10.out.trans r2)
      have HL11 := hidI (Nat.le_trans HL10.out r3)
      replace HVbegin := hidI (Nat.lt_of_lt_of_le HVbegin.out r3)
      replace HVabort := hidI (Nat.lt_of_lt_of_le HVabort.out r3)
      replace HVover := hidI (Nat.lt_of_lt_of_le HVover.out r3)
      have HC11 := hidI hec
      clear r1 r2 r3 hec x0 x11
      have x0 := HT11.out.x0
      have x11 := HT11.out.x11
      go_wp2_with fail
      refine (here_any HT11.out.code HVabort.out).mono ?_
      rintro e w12 ⟨rfl, own12, r1, r2, r3⟩
      generalize hec : c11.here abort = c12 at r1 r3
      have HT12 := hidI (HT11.out.next r1 r2)
      have HU12 := hidI (HU11.out.trans r2)
      have HL12 := hidI (Nat.le_trans HL11.out r3)
      replace HVbegin := hidI (Nat.lt_of_lt_of_le HVbegin.out r3)
      replace HVabort := hidI (Nat.lt_of_lt_of_le HVabort.out r3)
      replace HVover := hidI (Nat.lt_of_lt_of_le HVover.out r3)
      have HC12 := hidI hec
      clear r1 r2 r3 hec x0 x11
      have x0 := HT12.out.x0
      have x11 := HT12.out.x11
      go_wp2_with fail
      refine (txabort_any HT12.out OK.out  (by have := HK.out; omega)).mono ?_
      rintro e w13 ⟨rfl, own13, r1, r2, r3⟩
      generalize hec : c12.abort t = c13 at r1 r3
      have HT13 := hidI (r1)
      have HU13 := hidI (HU12.out.trans r2)
      have HL13 := hidI (Nat.le_trans HL12.out r3)
      replace HVbegin := hidI (Nat.lt_of_lt_of_le HVbegin.out r3)
      replace HVabort := hidI (Nat.lt_of_lt_of_le HVabort.out r3)
      replace HVover := hidI (Nat.lt_of_lt_of_le HVover.out r3)
      have HC13 := hidI hec
      clear r1 r2 r3 hec x0 x11
      have x0 := HT13.out.x0
      have x11 := HT13.out.x11
      go_wp2_with fail
      refine (jump_any HT13.out.code HVbegin.out (by have := HK.out; omega)).mono ?_
      rintro e w14 ⟨rfl, own14, r1, r2, r3⟩
      generalize hec : c13.jump begin = c14 at r1 r3
      have HT14 := hidI (HT13.out.next r1 r2)
      have HU14 := hidI (HU13.out.trans r2)
      have HL14 := hidI (Nat.le_trans HL13.out r3)
      replace HVbegin := hidI (Nat.lt_of_lt_of_le HVbegin.out r3)
      replace HVabort := hidI (Nat.lt_of_lt_of_le HVabort.out r3)
      replace HVover := hidI (Nat.lt_of_lt_of_le HVover.out r3)
      have HC14 := hidI hec
      clear r1 r2 r3 hec x0 x11
      have x0 := HT14.out.x0
      have x11 := HT14.out.x11
      go_wp2_with fail
      refine (here_any HT14.out.code HVover.out).mono ?_
      rintro e w15 ⟨rfl, own15, r1, r2, r3⟩
      generalize hec : c14.here over = c15 at r1 r3
      have HT15 := hidI (HT14.out.next r1 r2)
      have HU15 := hidI (HU14.out.trans r2)
      have HL15 := hidI (Nat.le_trans HL14.out r3)
      replace HVbegin := hidI (Nat.lt_of_lt_of_le HVbegin.out r3)
      replace HVabort := hidI (Nat.lt_of_lt_of_le HVabort.out r3)
      replace HVover := hidI (Nat.lt_of_lt_of_le HVover.out r3)
      have HC15 := hidI hec
      clear r1 r2 r3 hec x0 x11
      have x0 := HT15.out.x0
      have x11 := HT15.out.x11
      go_wp2_with fail
      go_end0
      have q1 := HC1.out
      have q2 := HC2.out
      have q3 := HC3.out
      have q4 := HC4.out
      have q5 := HC5.out
      have q6 := HC6.out
      have q7 := HC7.out
      have q8 := HC8.out
      have q9 := HC9.out
      have q10 := HC10.out
      have q11 := HC11.out
      have q12 := HC12.out
      have q13 := HC13.out
      have q14 := HC14.out
      have q15 := HC15.out
      have pbegin := HFbegin.out
      have pabort := HFabort.out
      have pover := HFover.out
      subst q1 q2 q3 q4 q5 q6 q7 q8 q9 q10 q11 q12 q13 q14 q15
      subst pbegin pabort pover
      exact ⟨rfl, own15, HT15.out.more (by omega), HU15.out, HL15.out⟩
end

section
open Go.RowKit Go.Maps

variable {w w' w1 w2 : World} {own own1 own2 : Nat → Prop} {bc k : Nat} {c : Cd}

/-! ### plain -/
/-- the label of the jump at a place -/
def jmpAt (l : List (Nat × Nat)) : Nat → Option Nat := l.foldl (fun a p i => if p.1 = i then some p.2 else a i) (fun _ => none)
/-- an instruction with its place -/
def Cd.res (c : Cd) (i : Nat) (o : OpD) : OpD := match jmpAt c.jmp i with
  | none => o
  | some q => { o with n := c.labs.getD q 0 }
/-- all, with their places -/
def Cd.done (c : Cd) : List OpD := c.ops.mapIdx c.res
theorem done_len (c : Cd) : c.done.length = c.ops.length := by unfold Cd.done; rw [List.length_mapIdx]

/-- a map as read, and a function -/
structure Agr (D : DataW Unit) (a : Nat → Option Nat) : Prop where
  map : IsMap D
  at_ : ∀ (i : Nat) z, D.atKey (.int .i64 (i : Int)) z = match a i with
    | none => z
    | some q => .lit (.int .i64 (q : Int))
  has : ∀ x : Int, Maps.has D (.int .i64 x) = true → ∃ i : Nat, x = i ∧ (a i).isSome = true
theorem Agr.put {D : DataW Unit} {a : Nat → Option Nat} (h : Agr D a) (p : Nat × Nat) : Agr (D.put (.int .i64 (p.1 : Int)) (.lit (.int .i64 (p.2 : Int)))) (fun i => if p.1 = i then some p.2 else a i) := by
  refine ⟨h.map.put _ _, fun i z => ?_, fun x hx => ?_⟩
  · by_cases e : p.1 = i
    · subst e
      rw [if_pos rfl, atKey_put_same h.map (show WideAt.IsKeyLit (Lit.int .i64 (p.1 : Int)) from trivial)]
    · rw [if_neg e, atKey_put_other (fun q => e (by simp at q; omega))]
      exact h.at_ i z
  · by_cases e : x = (p.1 : Int)
    · exact ⟨p.1, e, by simp⟩
    · rw [has_put_other (fun q => e (by simpa using q))] at hx
      obtain ⟨i, h1, h2⟩ := h.has x hx
      refine ⟨i, h1, ?_⟩
      rw [if_neg (by omega)]
      exact h2
theorem agr_fold (l : List (Nat × Nat)) : ∀ {D : DataW Unit} {a : Nat → Option Nat}, Agr D a → Agr (l.foldl (fun D p => D.put (.int .i64 (p.1 : Int)) (.lit (.int .i64 (p.2 : Int)))) D) (l.foldl (fun a p i => if p.1 = i then some p.2 else a i) a) := by
  induction l with
  | nil => intro D a h; exact h
  | cons p l ih => intro D a h; exact ih (h.put p)
theorem agr_JD (l : List (Nat × Nat)) : Agr (JD l) (jmpAt l) := agr_fold l ⟨isMap_empty, fun i z => rfl, fun x hx => by simp [Maps.has] at hx⟩
theorem jmpAt_mem (l : List (Nat × Nat)) : ∀ {a : Nat → Option Nat} {i q : Nat}, l.foldl (fun a p i => if p.1 = i then some p.2 else a i) a i = some q → (∃ p ∈ l, p.2 = q) ∨ a i = some q := by
  induction l with
  | nil => intro a i q h; exact .inr h
  | cons p l ih =>
    intro a i q h
    rcases ih h with ⟨p', h1, h2⟩ | h'
    · exact .inl ⟨p', List.mem_cons_of_mem _ h1, h2⟩
    · simp only at h'
      split at h'
      · exact .inl ⟨p, List.mem_cons_self, by simpa using h'⟩
      · exact .inr h'
theorem jmpAt_lt {l : List (Nat × Nat)} {n i q : Nat} (hl : ∀ p ∈ l, p.2 < n) (h : jmpAt l i = some q) : q < n := by
  rcases jmpAt_mem l h with ⟨p, h1, h2⟩ | h'
  · rw [← h2]; exact hl p h1
  · cases h'

/-- the instructions while jumps still are to come -/
def curOps (c : Cd) (left : Lit → Bool) : List OpD := c.ops.mapIdx (fun i o => if left (.int .i64 (i : Int)) = true then o else c.res i o)
theorem curOps_len (c : Cd) (left : Lit → Bool) : (curOps c left).length = c.ops.length := by unfold curOps; rw [List.length_mapIdx]
theorem curOps_start (c : Cd) : curOps c (Maps.has (JD c.jmp)) = c.ops := by
  unfold curOps
  refine List.ext_getElem? fun i => ?_
  rw [List.getElem?_mapIdx]
  cases c.ops[i]? with
  | none => rfl
  | some o =>
    simp only [Option.map_some, Option.some.injEq]
    by_cases h : Maps.has (JD c.jmp) (.int .i64 (i : Int)) = true
    · rw [if_pos h]
    · rw [if_neg h]
      have hn : Maps.has (JD c.jmp) (.int .i64 (i : Int)) = false := by simpa using h
      have h1 := atKey_of_not_has hn .nil
      rw [(agr_JD c.jmp).at_] at h1
      unfold Cd.res
      cases hj : jmpAt c.jmp i with
      | none => rfl
      | some q => rw [hj] at h1; simp at h1
theorem curOps_end {c : Cd} {left : Lit → Bool} (h : ∀ kl, left kl = false) : curOps c left = c.done := by
  unfold curOps Cd.done
  refine List.ext_getElem? fun i => ?_
  rw [List.getElem?_mapIdx, List.getElem?_mapIdx, h]
  rfl
theorem curOps_at {c : Cd} {left : Lit → Bool} {p : Nat} {o : OpD} (ho : c.ops[p]? = some o) (hl : left (.int .i64 (p : Int)) = true) : (curOps c left)[p]? = some o := by
  unfold curOps
  rw [List.getElem?_mapIdx, ho]
  simp [hl]
theorem curOps_step {c : Cd} {left : Lit → Bool} {p : Nat} {o : OpD} (ho : c.ops[p]? = some o) : curOps c (fun z => left z && !z.sameKey (.int .i64 (p : Int))) = (curOps c left).set p (c.res p o) := by
  have hp := (List.getElem?_eq_some_iff.1 ho).1
  refine List.ext_getElem? fun i => ?_
  by_cases e : p = i
  · subst e
    rw [List.getElem?_set_self (by rw [curOps_len]; exact hp)]
    unfold curOps
    rw [List.getElem?_mapIdx, ho]
    simp [Lit.sameKey]
  · rw [List.getElem?_set_ne e]
    unfold curOps
    rw [List.getElem?_mapIdx, List.getElem?_mapIdx]
    have : (Lit.int .i64 (i : Int)).sameKey (.int .i64 (p : Int)) = false := sameKey_ne (fun q => e (by simp at q; omega))
    simp [this]
theorem curOps_far {c : Cd} {left : Lit → Bool} {p : Nat} (hp : c.ops.length ≤ p) : curOps c (fun z => left z && !z.sameKey (.int .i64 (p : Int))) = curOps c left := by
  unfold curOps
  refine List.ext_getElem? fun i => ?_
  rw [List.getElem?_mapIdx, List.getElem?_mapIdx]
  cases ho : c.ops[i]? with
  | none => rfl
  | some o =>
    have hi := (List.getElem?_eq_some_iff.1 ho).1
    have : (Lit.int .i64 (i : Int)).sameKey (.int .i64 (p : Int)) = false := sameKey_ne (fun q => by simp at q; omega)
    simp [this]
theorem flat_set5 (l : List OpD) {k : Nat} {o : OpD} (ho : l[k]? = some o) (y : Int) : (l.flatMap encOp).set (k * 6 + 5) (.int .i64 y) = (l.set k { o with n := y }).flatMap encOp := by
  have hk := (List.getElem?_eq_some_iff.1 ho).1
  have hl := flat_len encOp_len l
  refine List.ext_getElem? fun j => ?_
  have hq : j = j / 6 * 6 + j % 6 := by omega
  have hm : j % 6 < 6 := Nat.mod_lt _ (by decide)
  by_cases hj : j < l.length * 6
  · obtain ⟨x, hx⟩ := some_at (l := l) (k := j / 6) (by omega)
    by_cases e : k = j / 6
    · have hs : (l.set k { o with n := y })[j / 6]? = some { o with n := y } := by rw [← e, List.getElem?_set_self hk]
      rw [← e, ho] at hx
      cases hx
      have h1 : ∀ u, (encOp { o with n := y })[j % 6]? = some u → ((l.set k { o with n := y }).flatMap encOp)[j]? = some u := fun u hu => by
        have := flat_at encOp_len _ hs (j % 6) u hu
        rwa [← hq] at this
      have h2 : ∀ u, (encOp o)[j % 6]? = some u → (l.flatMap encOp)[j]? = some u := fun u hu => by
        have := flat_at encOp_len _ (show l[j / 6]? = some o from by rw [← e]; exact ho) (j % 6) u hu
        rwa [← hq] at this
      by_cases e5 : j % 6 = 5
      · rw [show k * 6 + 5 = j from by omega, List.getElem?_set_self (by omega)]
        exact (h1 _ (by rw [e5]; rfl)).symm
      · rw [List.getElem?_set_ne (by omega)]
        obtain ⟨u, hu⟩ : ∃ u, (encOp o)[j % 6]? = some u := some_at (by rw [encOp_len]; exact hm)
        rw [h2 u hu, h1 u ?_]
        rw [← hu]
        have : j % 6 = 0 ∨ j % 6 = 1 ∨ j % 6 = 2 ∨ j % 6 = 3 ∨ j % 6 = 4 := by omega
        rcases this with q | q | q | q | q <;> rw [q] <;> rfl
    · rw [List.getElem?_set_ne (by omega)]
      have hs : (l.set k { o with n := y })[j / 6]? = some x := by rw [List.getElem?_set_ne e, hx]
      obtain ⟨u, hu⟩ : ∃ u, (encOp x)[j % 6]? = some u := some_at (by rw [encOp_len]; exact hm)
      have h1 := flat_at encOp_len _ hs (j % 6) u hu
      have h2 := flat_at encOp_len _ hx (j % 6) u hu
      rw [← hq] at h1 h2
      rw [h1, h2]
  · rw [List.getElem?_eq_none (by rw [List.length_set]; omega), List.getElem?_eq_none (by rw [flat_len encOp_len, List.length_set]; omega)]

/-! ### the walk -/
theorem emOpSize : (Tryz.prog.info? 107).map (·.size) = some 6 := by kernel_rfl
theorem one_emops (l : List OpD) : ∀ u ∈ l.flatMap encOp, u.oneCell' = true := by
  intro u hu
  obtain ⟨x, _, hx⟩ := List.mem_flatMap.1 hu
  exact one_emop x u hx
/-- what Ops answers: instructions in new memory -/
def OpsPost (c : Cd) (w : World) (e : Ending) (w' : World) : Prop :=
  ∃ g, e = .returned (.slice (some ⟨g, 0, none⟩) c.ops.length c.ops.length) ∧ w'.heap[g]? = some (.cells (c.done.flatMap encOp).toArray 107 (0, 0)) ∧ w.heap.size ≤ g ∧ Below w.heap.size w w'

set_option maxRecDepth 100000 in
set_option maxHeartbeats 4000000 in
theorem ops_any (h : CdAt w own bc c k) (hk : k ≤ 1099511627776) :
    Calls Tryz.prog 58 #[.pointer (some ⟨bc, 0, none⟩)] w (OpsPost c w) := by
  obtain ⟨oo, oc, lo, lc, mb, h⟩ := h
  have c0 : w.cell? ⟨bc, 0, none⟩ = some (.slice oo c.ops.length oc) := cell_of_block h.blk rfl
  have hfew := h.few
  have HF := hidI hfew
  have H := hidI h
  obtain ⟨i0, hi, hz0, hz1, hz2⟩ := info_parts emOpInfo
  clear h
  go_enter Tryz.func58, Tryz.ntmps58
  go_wp2_with (at_make; refine wpList_make_s _ rfl _ _ 57 rfl 107 i0 _ 6 (encOp ⟨0, 0, 0, 0, 0, 0⟩) Tryz.underlying57 hi hz0 hz1 rfl rfl (by decide) _ _ _ _ c.ops.length c.ops.length rfl rfl rfl ?b0 ?b1 ?b2 ?b3 ?_)
  case b0 => rfl
  case b1 => exact Nat.le_refl _
  case b2 => rw [hz2]; have := HF.out; omega
  case b3 => have := HF.out; unfold maxLen; omega
  intro w1 hg1 hs1 hb1
  have HG1 := hidI hg1
  have H1 := hidI (H.out.keep (Chg.of_below (S := fun _ => False) hb1) (fun _ _ e => e))
  have c0 : w1.cell? ⟨bc, 0, none⟩ = some (.slice oo c.ops.length oc) := cell_of_block H1.out.blk rfl
  clear hg1
  go_wp2_with (refine wpList_copy_s (o := ⟨some 17, _, _, _, _, _⟩) rfl _ _ 57 57 rfl 107 6 Tryz.underlying57 emOpSize w.heap.size c.ops.length c.ops.length _ (c.ops.flatMap encOp) rfl rfl (Rd.of_own H1.out.ops) _ _ HG1.out ?d1 (one_emops _) ?_)
  case d1 => rw [flat_len encOp_len]; simp [encOp_len]
  intro w2 hg2 hs2 hc2
  have hg2' : w2.heap[w.heap.size]? = some (.cells (c.ops.flatMap encOp).toArray 107 (0, 0)) := by
    rw [hg2]
    rw [List.drop_of_length_le (by simp [encOp_len]), List.append_nil]
  have HG2 := hidI hg2'
  have hb2 : Below w.heap.size w w2 := hc2.below hb1 (by omega) (by rintro k rfl; exact Nat.le_refl _)
  have HB2 := hidI hb2
  have H2 := hidI (H.out.keep (Chg.of_below (S := fun _ => False) hb2) (fun _ _ e => e))
  have c2 : w2.cell? ⟨bc, 2, none⟩ = some (.map (some mb)) := cell_of_block H2.out.blk rfl
  have HS2 := hidI (show w2.heap.size = w.heap.size + 1 from by omega)
  clear hg2 hg2' HG1 hc2 H1 hb1 hb2 c0 hs1 hs2 hi hz0 hz1 hz2
  obtain ⟨bl, hbl⟩ : ∃ b, b = w.heap.size := ⟨_, rfl⟩
  have HBL := hidI hbl
  rw [← hbl] at HG2 ⊢
  clear hbl
  go_wp2_with (first
    | (at_range; refine wpList_range_own _ rfl _ 139 rfl 3 169 emLaw Tryz.underlying139 _ mb k _ rfl H2.out.mp ?_; intro w3 hrg0 hg0 hs0)
    | go_in)
  go_frame
  have HB3 := hidI (show Below w.heap.size w w3 from HB2.out.trans ⟨hg0.os, hg0.tape, hg0.output, hg0.size, fun k hk => hg0.block k (by have := HB2.out.size; omega) (by simp)⟩)
  have HG3 := hidI (show w3.heap[bl]? = some (.cells ((curOps c (Maps.has (JD c.jmp))).flatMap encOp).toArray 107 (0, 0)) from by rw [curOps_start, hg0.block bl (lt_of_block HG2.out) (by simp)]; exact HG2.out)
  obtain ⟨br, hbr⟩ : ∃ b, b = w2.heap.size := ⟨_, rfl⟩
  have HBR := hidI hbr
  rw [← hbr] at hrg0 ⊢
  have HR0 := hidI hrg0
  clear hrg0 hg0 hs0 hbr c2 H2 HG2
  have HN := hidI (show ∀ q, (Value.slice lo c.labs.length lc).ownBlock = some q → q < w.heap.size from fun q hq => H.out.lt q (H.out.ol q hq))
  go_loopw [4] (fun _ wr => ∃ (left : Lit → Bool) (cnt : Nat), Hid (wr.ranges Tryz.prog 3 (plainElem Tryz.prog 169) mb br k (JD c.jmp) left cnt) ∧ Hid (∀ kl, left kl = true → Maps.has (JD c.jmp) kl = true) ∧ Hid (wr.heap[bl]? = some (.cells ((curOps c left).flatMap encOp).toArray 107 (0, 0))) ∧ Hid (Below w.heap.size w wr))
    (fun _ wr => wr.rangeLeft mb br)
  case atStart => exact ⟨_, _, HR0, hidI (fun kl h => h), HG3, HB3⟩
  case round =>
    obtain ⟨left, cnt, HR, HH, HG, HB⟩ := hrel
    clear HR0 HG3 HB3
    go_wp2_with (first
      | (at_next; refine wpList_next_ranges_ii _ rfl _ rfl 3 169 .i64 .i64 emLaw Tryz.underlying3 Tryz.underlying169 mb br k _ _ _ rfl HR.out ?_ ?_)
      | go_in)
    · intro hc0 hl0
      have HG' := hidI (show wr.heap[bl]? = some (.cells (c.done.flatMap encOp).toArray 107 (0, 0)) from by rw [← curOps_end hl0]; exact HG.out)
      clear hc0 hl0
      go_wp2_with fail
      go_ret
      exact ⟨bl, rfl, HG'.out, by have := HBL.out; omega, HB.out⟩
    · intro x y w4 cnt1 hwx hwc hlx hat hrg1 hlt hg1 hs1 hen
      obtain ⟨p, rfl, hsome⟩ := (agr_JD c.jmp).has x (HH.out _ hlx)
      obtain ⟨q, hq⟩ := Option.isSome_iff_exists.1 hsome
      have hy := hat .nil
      rw [(agr_JD c.jmp).at_, hq] at hy
      simp only [DataW.lit.injEq, Lit.int.injEq, true_and] at hy
      subst hy
      have hql : q < c.labs.length := jmpAt_lt H.out.jl hq
      have hblr : bl ≠ br := by have := HBL.out; have := HBR.out; have := HS2.out; omega
      have hg4 : w4.heap[bl]? = some (.cells ((curOps c left).flatMap encOp).toArray 107 (0, 0)) := by
        rw [hg1.block bl (lt_of_block HG.out) (by simpa using hblr)]
        exact HG.out
      have hb4 : Below w.heap.size w w4 := HB.out.trans ⟨hg1.os, hg1.tape, hg1.output, hg1.size, fun k hk => hg1.block k (by have := HB.out.size; omega) (by have := HBR.out; have := HS2.out; simp; omega)⟩
      have H4 := hidI (H.out.keep (Chg.of_below (S := fun _ => False) hb4) (fun _ _ e => e))
      have HB4 := hidI hb4
      have HG4 := hidI hg4
      have HRG := hidI hrg1
      have HQ := hidI hq
      have HHL := hidI (show ∀ kl, (left kl && !kl.sameKey (.int .i64 (p : Int))) = true → Maps.has (JD c.jmp) kl = true from fun kl h => HH.out kl (by simp only [Bool.and_eq_true] at h; exact h.1))
      have HLT := hidI (show w4.rangeLeft mb br < wr.rangeLeft mb br from by rw [hrg1.left_eq, HR.out.left_eq]; exact hlt)
      have HLX := hidI hlx
      clear hwx hwc hlx hat hrg1 hlt hg1 hs1 hsome hq hb4 hg4 HH HG HB
      by_cases hp : p < c.ops.length
      · obtain ⟨o, ho⟩ := some_at hp
        have hcur := curOps_at ho HLX.out
        have hpi : (p : Int) < (c.ops.length : Int) := by omega
        have hqi : (q : Int) < (c.labs.length : Int) := by omega
        have c1 : w4.cell? ⟨bc, 1, none⟩ = some (.slice lo c.labs.length lc) := cell_of_block H4.out.blk rfl
        obtain ⟨g, cur, hlo, -, hgb, hcap, hcells⟩ := ownsRow_some H4.out.labs (by omega)
        have d0 : w4.cell? ⟨g, q, none⟩ = some (.int .i64 (c.labs.getD q 0)) := cell_of_block hgb (hcells _ _ (by simp [hql]))
        have d1 : w4.cell? ⟨bl, p * 6 + 5, none⟩ = some (.int .i64 o.n) := cell_of_block HG4.out (by have := flat_at encOp_len _ hcur 5 _ rfl; simpa using this)
        have f1 : w4.frozen? ⟨bl, p * 6 + 5, none⟩ = false := free_of_block HG4.out
        have HSET := hidI (show (w4.setCell ⟨bl, p * 6 + 5, none⟩ (.int .i64 (c.labs.getD q 0))).heap[bl]? = some (.cells ((curOps c (fun z => left z && !z.sameKey (.int .i64 (p : Int)))).flatMap encOp).toArray 107 (0, 0)) from by
          have h9 := block_setCell (o := p * 6 + 5) (.int .i64 (c.labs.getD q 0)) HG4.out
          rw [h9, curOps_step ho]
          have hres : c.res p o = { o with n := c.labs.getD q 0 } := by unfold Cd.res; rw [HQ.out]
          rw [hres, ← flat_set5 _ hcur]
          simp)
        have HRS := hidI (show (w4.setCell ⟨bl, p * 6 + 5, none⟩ (.int .i64 (c.labs.getD q 0))).ranges Tryz.prog 3 (plainElem Tryz.prog 169) mb br k (JD c.jmp) (fun z => left z && !z.sameKey (.int .i64 (p : Int))) cnt1 from
          HRG.out.kept (row := some bl) ⟨rfl, rfl, rfl, by simp [World.setCell], fun j hj hne => Below.heap_setCell _ _ _ _ (fun e => hne (by rw [e]))⟩ (by have h1 := H.out.lt _ H.out.om; have h2 := HBL.out; simp; omega) (by simpa using hblr.symm))
        subst hlo
        have HBS := hidI (HB4.out.setCell (p := ⟨bl, p * 6 + 5, none⟩) (by have := HBL.out; show w.heap.size ≤ bl; omega) (.int .i64 (c.labs.getD q 0)))
        generalize c.labs.getD q 0 = y at d0 HSET HRS HBS
        have HLT2 := hidI (show (w4.setCell ⟨bl, p * 6 + 5, none⟩ (.int .i64 y)).rangeLeft mb br < wr.rangeLeft mb br from by rw [HRS.out.left_eq, ← HRG.out.left_eq]; exact HLT.out)
        clear hgb hcells ho hcur hblr
        go_wp2_with fail
        exact ⟨⟨_, _, HRS, HHL, HSET, HBS⟩, HLT2.out⟩
      · have hpi : ¬ (p : Int) < (c.ops.length : Int) := by omega
        have hge : c.ops.length ≤ p := by omega
        have HG5 := hidI (show w4.heap[bl]? = some (.cells ((curOps c (fun z => left z && !z.sameKey (.int .i64 (p : Int)))).flatMap encOp).toArray 107 (0, 0)) from by rw [curOps_far hge]; exact HG4.out)
        clear hblr hge
        go_wp2_with fail
        exact ⟨⟨_, _, HRG, HHL, HG5, HB4⟩, HLT.out⟩
end

end Go.Proofs.YtopdcjimpdalpaaGreat

/- Part of the proof: EmG -/
import Derived.Test.YtgodmogkhgilmaaGreatDoorP11
namespace Go.Proofs.YtgodmogkhgilmaaGreatDoor
open Go.RowKit Go.Maps
set_option linter.unusedVariables false
set_option linter.unusedSimpArgs false
set_option maxHeartbeats 4000000
set_option maxRecDepth 100000
variable {w w' w1 w2 : World} {own own1 own2 : Nat → Prop} {bc k br : Nat} {tv : Value} {t : TxC}
def Cd.entries_l (t : TxC) (c0 : Cd) : Cd :=
  let loop := c0.labs.length
  let c1 := c0.label
  let fin := c1.labs.length
  let c2 := c1.label
  let c3 := c2.get t 6 2
  let c4 := c3.set 5 t.log
  let c5 := c4.here loop
  let c6 := c5.zero 6 fin
  let c7 := c6.locks1 t
  let c8 := c7.with_ 1 5 2 4
  let c9 := c8.with_ 2 6 1 4
  let c10 := c9.jump loop
  let c11 := c10.here fin
  c11
theorem txentries_l_any {c0 : Cd} {ba : Nat} (h : TxAt w own br bc tv t c0 k) (ok : TxOk t) (hka : Keep w own ba (.cells #[.pointer (some ⟨br, 0, none⟩)] 323 (0, 0))) (hk : k ≤ 1099509000000) :
    Calls Tryz.prog 215 #[.pointer (some ⟨br, 0, none⟩), .func (.func 238) #[] #[.pointer (some ⟨ba, 0, none⟩)]] w (EmT own w br bc tv t c0 (c0.entries_l t) (k + 4)) := by
  have OK := hidI ok
  have HK := hidI hk
  have S := hidI ((Sq.start h).kp hka)
  have x0 := S.out.tx.x0
  have x5 := S.out.tx.x5
  have a0 := S.out.k0
  clear h ok hk hka
  go_enter Tryz.func215, Tryz.ntmps215
  go_wp2_with fail
  have S0 := hidI S.out.drew
  clear S
  go_region_held3 (fun w' => w'.cell? ⟨br, 0, none⟩ = some (.pointer (some ⟨bc, 0, none⟩)) ∧ w'.cell? ⟨ba, 0, none⟩ = some (.pointer (some ⟨br, 0, none⟩))) (refine ⟨?_, ?_⟩ <;> first | assumption | simp only [World.cell?_drew, *]) (first
    | (go_at_call 180; refine (S1.out.label (by have := HK.out; omega)).mono ?_; clear S1 x0 x5 a0; rintro e u ⟨fin, o, rfl, ffin, S2⟩; have x0 := S2.out.tx.x0; have x5 := S2.out.tx.x5; have a0 := S2.out.k0)
    | (go_at_call 180; refine (S0.out.label (by have := HK.out; omega)).mono ?_; clear S0 x0 x5 a0; rintro e u ⟨loop, o, rfl, floop, S1⟩; have x0 := S1.out.tx.x0; have x5 := S1.out.tx.x5; have a0 := S1.out.k0)
    )
  have S := S2
  clear S2
  go_wp2_with fail
  refine (S.out.get OK.out 6 2 (by decide)).mono ?_
  clear S x0 x5 a0
  rintro e u ⟨rfl, o, S⟩
  have x0 := S.out.tx.x0
  have x5 := S.out.tx.x5
  have a0 := S.out.k0
  go_wp2_with fail
  go_still_tail 9, (by kernel_rfl)
  go_wp2_with fail
  refine (S.out.drew.set 5 t.log).mono ?_
  clear S x0 x5 a0
  rintro e u ⟨rfl, o, S⟩
  have x0 := S.out.tx.x0
  have x5 := S.out.tx.x5
  have a0 := S.out.k0
  go_wp2_with fail
  refine (S.out.here loop (by simp)).mono ?_
  clear S x0 x5 a0
  rintro e u ⟨rfl, o, S⟩
  have x0 := S.out.tx.x0
  have x5 := S.out.tx.x5
  have a0 := S.out.k0
  go_wp2_with fail
  refine (S.out.zero 6 fin (by simp) (by have := HK.out; omega)).mono ?_
  clear S x0 x5 a0
  rintro e u ⟨rfl, o, S⟩
  have x0 := S.out.tx.x0
  have x5 := S.out.tx.x5
  have a0 := S.out.k0
  go_wp2_with fail
  refine (S.out.ut (txlocks1_any S.out.tx OK.out  (S.out.keep _ (.head _)) (by have := HK.out; omega))).mono ?_
  clear S x0 x5 a0
  rintro e u ⟨rfl, o, S⟩
  have x0 := S.out.tx.x0
  have x5 := S.out.tx.x5
  have a0 := S.out.k0
  go_wp2_with fail
  refine (S.out.with_ 1 5 2 4).mono ?_
  clear S x0 x5 a0
  rintro e u ⟨rfl, o, S⟩
  have x0 := S.out.tx.x0
  have x5 := S.out.tx.x5
  have a0 := S.out.k0
  go_wp2_with fail
  refine (S.out.with_ 2 6 1 4).mono ?_
  clear S x0 x5 a0
  rintro e u ⟨rfl, o, S⟩
  have x0 := S.out.tx.x0
  have x5 := S.out.tx.x5
  have a0 := S.out.k0
  go_wp2_with fail
  refine (S.out.jump loop (by simp) (by have := HK.out; omega)).mono ?_
  clear S x0 x5 a0
  rintro e u ⟨rfl, o, S⟩
  have x0 := S.out.tx.x0
  have x5 := S.out.tx.x5
  have a0 := S.out.k0
  go_wp2_with fail
  refine (S.out.here fin (by simp)).mono ?_
  clear S x0 x5 a0
  rintro e u ⟨rfl, o, S⟩
  have x0 := S.out.tx.x0
  have x5 := S.out.tx.x5
  have a0 := S.out.k0
  go_wp2_with fail
  go_end0
  cases ffin.out
  cases floop.out
  exact ⟨rfl, _, S.out.tx, S.out.turn, S.out.lab⟩
def Cd.entries_c (t : TxC) (c0 : Cd) : Cd :=
  let loop := c0.labs.length
  let c1 := c0.label
  let fin := c1.labs.length
  let c2 := c1.label
  let c3 := c2.get t 6 2
  let c4 := c3.set 5 t.log
  let c5 := c4.here loop
  let c6 := c5.zero 6 fin
  let c7 := c6.commit1 t
  let c8 := c7.with_ 1 5 2 4
  let c9 := c8.with_ 2 6 1 4
  let c10 := c9.jump loop
  let c11 := c10.here fin
  c11
theorem txentries_c_any {c0 : Cd} {ba : Nat} (h : TxAt w own br bc tv t c0 k) (ok : TxOk t) (hka : Keep w own ba (.cells #[.pointer (some ⟨br, 0, none⟩)] 323 (0, 0))) (hk : k ≤ 1099509000000) :
    Calls Tryz.prog 215 #[.pointer (some ⟨br, 0, none⟩), .func (.func 216) #[] #[.pointer (some ⟨ba, 0, none⟩)]] w (EmT own w br bc tv t c0 (c0.entries_c t) (k + 4)) := by
  have OK := hidI ok
  have HK := hidI hk
  have S := hidI ((Sq.start h).kp hka)
  have x0 := S.out.tx.x0
  have x5 := S.out.tx.x5
  have a0 := S.out.k0
  clear h ok hk hka
  go_enter Tryz.func215, Tryz.ntmps215
  go_wp2_with fail
  have S0 := hidI S.out.drew
  clear S
  go_region_held3 (fun w' => w'.cell? ⟨br, 0, none⟩ = some (.pointer (some ⟨bc, 0, none⟩)) ∧ w'.cell? ⟨ba, 0, none⟩ = some (.pointer (some ⟨br, 0, none⟩))) (refine ⟨?_, ?_⟩ <;> first | assumption | simp only [World.cell?_drew, *]) (first
    | (go_at_call 180; refine (S1.out.label (by have := HK.out; omega)).mono ?_; clear S1 x0 x5 a0; rintro e u ⟨fin, o, rfl, ffin, S2⟩; have x0 := S2.out.tx.x0; have x5 := S2.out.tx.x5; have a0 := S2.out.k0)
    | (go_at_call 180; refine (S0.out.label (by have := HK.out; omega)).mono ?_; clear S0 x0 x5 a0; rintro e u ⟨loop, o, rfl, floop, S1⟩; have x0 := S1.out.tx.x0; have x5 := S1.out.tx.x5; have a0 := S1.out.k0)
    )
  have S := S2
  clear S2
  go_wp2_with fail
  refine (S.out.get OK.out 6 2 (by decide)).mono ?_
  clear S x0 x5 a0
  rintro e u ⟨rfl, o, S⟩
  have x0 := S.out.tx.x0
  have x5 := S.out.tx.x5
  have a0 := S.out.k0
  go_wp2_with fail
  go_still_tail 9, (by kernel_rfl)
  go_wp2_with fail
  refine (S.out.drew.set 5 t.log).mono ?_
  clear S x0 x5 a0
  rintro e u ⟨rfl, o, S⟩
  have x0 := S.out.tx.x0
  have x5 := S.out.tx.x5
  have a0 := S.out.k0
  go_wp2_with fail
  refine (S.out.here loop (by simp)).mono ?_
  clear S x0 x5 a0
  rintro e u ⟨rfl, o, S⟩
  have x0 := S.out.tx.x0
  have x5 := S.out.tx.x5
  have a0 := S.out.k0
  go_wp2_with fail
  refine (S.out.zero 6 fin (by simp) (by have := HK.out; omega)).mono ?_
  clear S x0 x5 a0
  rintro e u ⟨rfl, o, S⟩
  have x0 := S.out.tx.x0
  have x5 := S.out.tx.x5
  have a0 := S.out.k0
  go_wp2_with fail
  refine (S.out.ut (txcommit1_any S.out.tx OK.out  (S.out.keep _ (.head _)) (by have := HK.out; omega))).mono ?_
  clear S x0 x5 a0
  rintro e u ⟨rfl, o, S⟩
  have x0 := S.out.tx.x0
  have x5 := S.out.tx.x5
  have a0 := S.out.k0
  go_wp2_with fail
  refine (S.out.with_ 1 5 2 4).mono ?_
  clear S x0 x5 a0
  rintro e u ⟨rfl, o, S⟩
  have x0 := S.out.tx.x0
  have x5 := S.out.tx.x5
  have a0 := S.out.k0
  go_wp2_with fail
  refine (S.out.with_ 2 6 1 4).mono ?_
  clear S x0 x5 a0
  rintro e u ⟨rfl, o, S⟩
  have x0 := S.out.tx.x0
  have x5 := S.out.tx.x5
  have a0 := S.out.k0
  go_wp2_with fail
  refine (S.out.jump loop (by simp) (by have := HK.out; omega)).mono ?_
  clear S x0 x5 a0
  rintro e u ⟨rfl, o, S⟩
  have x0 := S.out.tx.x0
  have x5 := S.out.tx.x5
  have a0 := S.out.k0
  go_wp2_with fail
  refine (S.out.here fin (by simp)).mono ?_
  clear S x0 x5 a0
  rintro e u ⟨rfl, o, S⟩
  have x0 := S.out.tx.x0
  have x5 := S.out.tx.x5
  have a0 := S.out.k0
  go_wp2_with fail
  go_end0
  cases ffin.out
  cases floop.out
  exact ⟨rfl, _, S.out.tx, S.out.turn, S.out.lab⟩
def Cd.stripes_l (t : TxC) (rel : Nat) (c0 : Cd) : Cd :=
  let loop := c0.labs.length
  let c1 := c0.label
  let next := c1.labs.length
  let c2 := c1.label
  let fin := c2.labs.length
  let c3 := c2.label
  let c4 := c3.set 6 0
  let c5 := c4.here loop
  let c6 := c5.move 4 6
  let c7 := c6.with_ 13 4 16 3
  let c8 := c7.zero 4 fin
  let c9 := c8.get t 4 7
  let c10 := c9.calc 10 4 6
  let c11 := c10.with_ 6 4 1 3
  let c12 := c11.zero 4 next
  let c13 := c12.locks2 t rel
  let c14 := c13.here next
  let c15 := c14.with_ 1 6 1 3
  let c16 := c15.jump loop
  let c17 := c16.here fin
  c17
theorem txstripes_l_any {c0 : Cd} {rel : Nat} {ba : Nat} {bd : Nat} (h : TxAt w own br bc tv t c0 k) (ok : TxOk t) (hlrel : rel < c0.labs.length) (hka : Keep w own ba (.cells #[.pointer (some ⟨br, 0, none⟩)] 323 (0, 0))) (hkd : Keep w own bd (.cells #[.int .i64 (rel : Int)] 326 (0, 0))) (hk : k ≤ 1099509000000) :
    Calls Tryz.prog 217 #[.pointer (some ⟨br, 0, none⟩), .int .i64 7, .func (.func 239) #[] #[.pointer (some ⟨ba, 0, none⟩), .pointer (some ⟨bd, 0, none⟩)]] w (EmT own w br bc tv t c0 (c0.stripes_l t rel) (k + 12)) := by
  have OK := hidI ok
  have HK := hidI hk
  have S := hidI ((((Sq.start h).kp hkd).kp hka).lbl hlrel)
  have x0 := S.out.tx.x0
  have a0 := S.out.k0
  have d0 := S.out.k1
  clear h ok hk hlrel hka hkd
  go_enter Tryz.func217, Tryz.ntmps217
  go_wp2_with fail
  have S0 := hidI S.out.drew
  clear S
  go_region_held3 (fun w' => w'.cell? ⟨br, 0, none⟩ = some (.pointer (some ⟨bc, 0, none⟩)) ∧ w'.cell? ⟨ba, 0, none⟩ = some (.pointer (some ⟨br, 0, none⟩)) ∧ w'.cell? ⟨bd, 0, none⟩ = some (.int .i64 (rel : Int))) (refine ⟨?_, ?_, ?_⟩ <;> first | assumption | simp only [World.cell?_drew, *]) (first
    | (go_at_call 180; refine (S2.out.label (by have := HK.out; omega)).mono ?_; clear S2 x0 a0 d0; rintro e u ⟨fin, o, rfl, ffin, S3⟩; have x0 := S3.out.tx.x0; have a0 := S3.out.k0; have d0 := S3.out.k1)
    | (go_at_call 180; refine (S1.out.label (by have := HK.out; omega)).mono ?_; clear S1 x0 a0 d0; rintro e u ⟨next, o, rfl, fnext, S2⟩; have x0 := S2.out.tx.x0; have a0 := S2.out.k0; have d0 := S2.out.k1)
    | (go_at_call 180; refine (S0.out.label (by have := HK.out; omega)).mono ?_; clear S0 x0 a0 d0; rintro e u ⟨loop, o, rfl, floop, S1⟩; have x0 := S1.out.tx.x0; have a0 := S1.out.k0; have d0 := S1.out.k1)
    )
  have S := S3
  clear S3
  go_wp2_with fail
  refine (S.out.set 6 0).mono ?_
  clear S x0 a0 d0
  rintro e u ⟨rfl, o, S⟩
  have x0 := S.out.tx.x0
  have a0 := S.out.k0
  have d0 := S.out.k1
  go_wp2_with fail
  refine (S.out.here loop (by simp)).mono ?_
  clear S x0 a0 d0
  rintro e u ⟨rfl, o, S⟩
  have x0 := S.out.tx.x0
  have a0 := S.out.k0
  have d0 := S.out.k1
  go_wp2_with fail
  refine (S.out.move 4 6).mono ?_
  clear S x0 a0 d0
  rintro e u ⟨rfl, o, S⟩
  have x0 := S.out.tx.x0
  have a0 := S.out.k0
  have d0 := S.out.k1
  go_wp2_with fail
  refine (S.out.with_ 13 4 16 3).mono ?_
  clear S x0 a0 d0
  rintro e u ⟨rfl, o, S⟩
  have x0 := S.out.tx.x0
  have a0 := S.out.k0
  have d0 := S.out.k1
  go_wp2_with fail
  refine (S.out.zero 4 fin (by simp) (by have := HK.out; omega)).mono ?_
  clear S x0 a0 d0
  rintro e u ⟨rfl, o, S⟩
  have x0 := S.out.tx.x0
  have a0 := S.out.k0
  have d0 := S.out.k1
  go_wp2_with fail
  refine (S.out.get OK.out 4 7 (by decide)).mono ?_
  clear S x0 a0 d0
  rintro e u ⟨rfl, o, S⟩
  have x0 := S.out.tx.x0
  have a0 := S.out.k0
  have d0 := S.out.k1
  go_wp2_with fail
  refine (S.out.calc 10 4 6).mono ?_
  clear S x0 a0 d0
  rintro e u ⟨rfl, o, S⟩
  have x0 := S.out.tx.x0
  have a0 := S.out.k0
  have d0 := S.out.k1
  go_wp2_with fail
  refine (S.out.with_ 6 4 1 3).mono ?_
  clear S x0 a0 d0
  rintro e u ⟨rfl, o, S⟩
  have x0 := S.out.tx.x0
  have a0 := S.out.k0
  have d0 := S.out.k1
  go_wp2_with fail
  refine (S.out.zero 4 next (by simp) (by have := HK.out; omega)).mono ?_
  clear S x0 a0 d0
  rintro e u ⟨rfl, o, S⟩
  have x0 := S.out.tx.x0
  have a0 := S.out.k0
  have d0 := S.out.k1
  go_wp2_with fail
  refine (S.out.ut (txlocks2_any S.out.tx OK.out (S.out.live rel (by simp)) (S.out.keep _ (.head _)) (S.out.keep _ (.tail _ (.head _))) (by have := HK.out; omega))).mono ?_
  clear S x0 a0 d0
  rintro e u ⟨rfl, o, S⟩
  have x0 := S.out.tx.x0
  have a0 := S.out.k0
  have d0 := S.out.k1
  go_wp2_with fail
  refine (S.out.here next (by simp)).mono ?_
  clear S x0 a0 d0
  rintro e u ⟨rfl, o, S⟩
  have x0 := S.out.tx.x0
  have a0 := S.out.k0
  have d0 := S.out.k1
  go_wp2_with fail
  refine (S.out.with_ 1 6 1 3).mono ?_
  clear S x0 a0 d0
  rintro e u ⟨rfl, o, S⟩
  have x0 := S.out.tx.x0
  have a0 := S.out.k0
  have d0 := S.out.k1
  go_wp2_with fail
  refine (S.out.jump loop (by simp) (by have := HK.out; omega)).mono ?_
  clear S x0 a0 d0
  rintro e u ⟨rfl, o, S⟩
  have x0 := S.out.tx.x0
  have a0 := S.out.k0
  have d0 := S.out.k1
  go_wp2_with fail
  refine (S.out.here fin (by simp)).mono ?_
  clear S x0 a0 d0
  rintro e u ⟨rfl, o, S⟩
  have x0 := S.out.tx.x0
  have a0 := S.out.k0
  have d0 := S.out.k1
  go_wp2_with fail
  go_end0
  cases ffin.out
  cases fnext.out
  cases floop.out
  exact ⟨rfl, _, S.out.tx, S.out.turn, S.out.lab⟩
def Cd.stripes_v (t : TxC) (rel : Nat) (c0 : Cd) : Cd :=
  let loop := c0.labs.length
  let c1 := c0.label
  let next := c1.labs.length
  let c2 := c1.label
  let fin := c2.labs.length
  let c3 := c2.label
  let c4 := c3.set 6 0
  let c5 := c4.here loop
  let c6 := c5.move 4 6
  let c7 := c6.with_ 13 4 16 3
  let c8 := c7.zero 4 fin
  let c9 := c8.get t 4 1
  let c10 := c9.calc 10 4 6
  let c11 := c10.with_ 6 4 1 3
  let c12 := c11.zero 4 next
  let c13 := c12.valid1 t rel
  let c14 := c13.here next
  let c15 := c14.with_ 1 6 1 3
  let c16 := c15.jump loop
  let c17 := c16.here fin
  c17
theorem txstripes_v_any {c0 : Cd} {rel : Nat} {ba : Nat} {bd : Nat} (h : TxAt w own br bc tv t c0 k) (ok : TxOk t) (hlrel : rel < c0.labs.length) (hka : Keep w own ba (.cells #[.pointer (some ⟨br, 0, none⟩)] 323 (0, 0))) (hkd : Keep w own bd (.cells #[.int .i64 (rel : Int)] 326 (0, 0))) (hk : k ≤ 1099509000000) :
    Calls Tryz.prog 217 #[.pointer (some ⟨br, 0, none⟩), .int .i64 1, .func (.func 241) #[] #[.pointer (some ⟨ba, 0, none⟩), .pointer (some ⟨bd, 0, none⟩)]] w (EmT own w br bc tv t c0 (c0.stripes_v t rel) (k + 14)) := by
  have OK := hidI ok
  have HK := hidI hk
  have S := hidI ((((Sq.start h).kp hkd).kp hka).lbl hlrel)
  have x0 := S.out.tx.x0
  have a0 := S.out.k0
  have d0 := S.out.k1
  clear h ok hk hlrel hka hkd
  go_enter Tryz.func217, Tryz.ntmps217
  go_wp2_with fail
  have S0 := hidI S.out.drew
  clear S
  go_region_held3 (fun w' => w'.cell? ⟨br, 0, none⟩ = some (.pointer (some ⟨bc, 0, none⟩)) ∧ w'.cell? ⟨ba, 0, none⟩ = some (.pointer (some ⟨br, 0, none⟩)) ∧ w'.cell? ⟨bd, 0, none⟩ = some (.int .i64 (rel : Int))) (refine ⟨?_, ?_, ?_⟩ <;> first | assumption | simp only [World.cell?_drew, *]) (first
    | (go_at_call 180; refine (S2.out.label (by have := HK.out; omega)).mono ?_; clear S2 x0 a0 d0; rintro e u ⟨fin, o, rfl, ffin, S3⟩; have x0 := S3.out.tx.x0; have a0 := S3.out.k0; have d0 := S3.out.k1)
    | (go_at_call 180; refine (S1.out.label (by have := HK.out; omega)).mono ?_; clear S1 x0 a0 d0; rintro e u ⟨next, o, rfl, fnext, S2⟩; have x0 := S2.out.tx.x0; have a0 := S2.out.k0; have d0 := S2.out.k1)
    | (go_at_call 180; refine (S0.out.label (by have := HK.out; omega)).mono ?_; clear S0 x0 a0 d0; rintro e u ⟨loop, o, rfl, floop, S1⟩; have x0 := S1.out.tx.x0; have a0 := S1.out.k0; have d0 := S1.out.k1)
    )
  have S := S3
  clear S3
  go_wp2_with fail
  refine (S.out.set 6 0).mono ?_
  clear S x0 a0 d0
  rintro e u ⟨rfl, o, S⟩
  have x0 := S.out.tx.x0
  have a0 := S.out.k0
  have d0 := S.out.k1
  go_wp2_with fail
  refine (S.out.here loop (by simp)).mono ?_
  clear S x0 a0 d0
  rintro e u ⟨rfl, o, S⟩
  have x0 := S.out.tx.x0
  have a0 := S.out.k0
  have d0 := S.out.k1
  go_wp2_with fail
  refine (S.out.move 4 6).mono ?_
  clear S x0 a0 d0
  rintro e u ⟨rfl, o, S⟩
  have x0 := S.out.tx.x0
  have a0 := S.out.k0
  have d0 := S.out.k1
  go_wp2_with fail
  refine (S.out.with_ 13 4 16 3).mono ?_
  clear S x0 a0 d0
  rintro e u ⟨rfl, o, S⟩
  have x0 := S.out.tx.x0
  have a0 := S.out.k0
  have d0 := S.out.k1
  go_wp2_with fail
  refine (S.out.zero 4 fin (by simp) (by have := HK.out; omega)).mono ?_
  clear S x0 a0 d0
  rintro e u ⟨rfl, o, S⟩
  have x0 := S.out.tx.x0
  have a0 := S.out.k0
  have d0 := S.out.k1
  go_wp2_with fail
  refine (S.out.get OK.out 4 1 (by decide)).mono ?_
  clear S x0 a0 d0
  rintro e u ⟨rfl, o, S⟩
  have x0 := S.out.tx.x0
  have a0 := S.out.k0
  have d0 := S.out.k1
  go_wp2_with fail
  refine (S.out.calc 10 4 6).mono ?_
  clear S x0 a0 d0
  rintro e u ⟨rfl, o, S⟩
  have x0 := S.out.tx.x0
  have a0 := S.out.k0
  have d0 := S.out.k1
  go_wp2_with fail
  refine (S.out.with_ 6 4 1 3).mono ?_
  clear S x0 a0 d0
  rintro e u ⟨rfl, o, S⟩
  have x0 := S.out.tx.x0
  have a0 := S.out.k0
  have d0 := S.out.k1
  go_wp2_with fail
  refine (S.out.zero 4 next (by simp) (by have := HK.out; omega)).mono ?_
  clear S x0 a0 d0
  rintro e u ⟨rfl, o, S⟩
  have x0 := S.out.tx.x0
  have a0 := S.out.k0
  have d0 := S.out.k1
  go_wp2_with fail
  refine (S.out.ut (txvalid1_any S.out.tx OK.out (S.out.live rel (by simp)) (S.out.keep _ (.head _)) (S.out.keep _ (.tail _ (.head _))) (by have := HK.out; omega))).mono ?_
  clear S x0 a0 d0
  rintro e u ⟨rfl, o, S⟩
  have x0 := S.out.tx.x0
  have a0 := S.out.k0
  have d0 := S.out.k1
  go_wp2_with fail
  refine (S.out.here next (by simp)).mono ?_
  clear S x0 a0 d0
  rintro e u ⟨rfl, o, S⟩
  have x0 := S.out.tx.x0
  have a0 := S.out.k0
  have d0 := S.out.k1
  go_wp2_with fail
  refine (S.out.with_ 1 6 1 3).mono ?_
  clear S x0 a0 d0
  rintro e u ⟨rfl, o, S⟩
  have x0 := S.out.tx.x0
  have a0 := S.out.k0
  have d0 := S.out.k1
  go_wp2_with fail
  refine (S.out.jump loop (by simp) (by have := HK.out; omega)).mono ?_
  clear S x0 a0 d0
  rintro e u ⟨rfl, o, S⟩
  have x0 := S.out.tx.x0
  have a0 := S.out.k0
  have d0 := S.out.k1
  go_wp2_with fail
  refine (S.out.here fin (by simp)).mono ?_
  clear S x0 a0 d0
  rintro e u ⟨rfl, o, S⟩
  have x0 := S.out.tx.x0
  have a0 := S.out.k0
  have d0 := S.out.k1
  go_wp2_with fail
  go_end0
  cases ffin.out
  cases fnext.out
  cases floop.out
  exact ⟨rfl, _, S.out.tx, S.out.turn, S.out.lab⟩
def Cd.stripes_u (t : TxC) (c0 : Cd) : Cd :=
  let loop := c0.labs.length
  let c1 := c0.label
  let next := c1.labs.length
  let c2 := c1.label
  let fin := c2.labs.length
  let c3 := c2.label
  let c4 := c3.set 6 0
  let c5 := c4.here loop
  let c6 := c5.move 4 6
  let c7 := c6.with_ 13 4 16 3
  let c8 := c7.zero 4 fin
  let c9 := c8.get t 4 6
  let c10 := c9.calc 10 4 6
  let c11 := c10.with_ 6 4 1 3
  let c12 := c11.zero 4 next
  let c13 := c12.commit2 t
  let c14 := c13.here next
  let c15 := c14.with_ 1 6 1 3
  let c16 := c15.jump loop
  let c17 := c16.here fin
  c17
theorem txstripes_u_any {c0 : Cd} {ba : Nat} (h : TxAt w own br bc tv t c0 k) (ok : TxOk t) (hka : Keep w own ba (.cells #[.pointer (some ⟨br, 0, none⟩)] 323 (0, 0))) (hk : k ≤ 1099509000000) :
    Calls Tryz.prog 217 #[.pointer (some ⟨br, 0, none⟩), .int .i64 6, .func (.func 218) #[] #[.pointer (some ⟨ba, 0, none⟩)]] w (EmT own w br bc tv t c0 (c0.stripes_u t) (k + 6)) := by
  have OK := hidI ok
  have HK := hidI hk
  have S := hidI ((Sq.start h).kp hka)
  have x0 := S.out.tx.x0
  have a0 := S.out.k0
  clear h ok hk hka
  go_enter Tryz.func217, Tryz.ntmps217
  go_wp2_with fail
  have S0 := hidI S.out.drew
  clear S
  go_region_held3 (fun w' => w'.cell? ⟨br, 0, none⟩ = some (.pointer (some ⟨bc, 0, none⟩)) ∧ w'.cell? ⟨ba, 0, none⟩ = some (.pointer (some ⟨br, 0, none⟩))) (refine ⟨?_, ?_⟩ <;> first | assumption | simp only [World.cell?_drew, *]) (first
    | (go_at_call 180; refine (S2.out.label (by have := HK.out; omega)).mono ?_; clear S2 x0 a0; rintro e u ⟨fin, o, rfl, ffin, S3⟩; have x0 := S3.out.tx.x0; have a0 := S3.out.k0)
    | (go_at_call 180; refine (S1.out.label (by have := HK.out; omega)).mono ?_; clear S1 x0 a0; rintro e u ⟨next, o, rfl, fnext, S2⟩; have x0 := S2.out.tx.x0; have a0 := S2.out.k0)
    | (go_at_call 180; refine (S0.out.label (by have := HK.out; omega)).mono ?_; clear S0 x0 a0; rintro e u ⟨loop, o, rfl, floop, S1⟩; have x0 := S1.out.tx.x0; have a0 := S1.out.k0)
    )
  have S := S3
  clear S3
  go_wp2_with fail
  refine (S.out.set 6 0).mono ?_
  clear S x0 a0
  rintro e u ⟨rfl, o, S⟩
  have x0 := S.out.tx.x0
  have a0 := S.out.k0
  go_wp2_with fail
  refine (S.out.here loop (by simp)).mono ?_
  clear S x0 a0
  rintro e u ⟨rfl, o, S⟩
  have x0 := S.out.tx.x0
  have a0 := S.out.k0
  go_wp2_with fail
  refine (S.out.move 4 6).mono ?_
  clear S x0 a0
  rintro e u ⟨rfl, o, S⟩
  have x0 := S.out.tx.x0
  have a0 := S.out.k0
  go_wp2_with fail
  refine (S.out.with_ 13 4 16 3).mono ?_
  clear S x0 a0
  rintro e u ⟨rfl, o, S⟩
  have x0 := S.out.tx.x0
  have a0 := S.out.k0
  go_wp2_with fail
  refine (S.out.zero 4 fin (by simp) (by have := HK.out; omega)).mono ?_
  clear S x0 a0
  rintro e u ⟨rfl, o, S⟩
  have x0 := S.out.tx.x0
  have a0 := S.out.k0
  go_wp2_with fail
  refine (S.out.get OK.out 4 6 (by decide)).mono ?_
  clear S x0 a0
  rintro e u ⟨rfl, o, S⟩
  have x0 := S.out.tx.x0
  have a0 := S.out.k0
  go_wp2_with fail
  refine (S.out.calc 10 4 6).mono ?_
  clear S x0 a0
  rintro e u ⟨rfl, o, S⟩
  have x0 := S.out.tx.x0
  have a0 := S.out.k0
  go_wp2_with fail
  refine (S.out.with_ 6 4 1 3).mono ?_
  clear S x0 a0
  rintro e u ⟨rfl, o, S⟩
  have x0 := S.out.tx.x0
  have a0 := S.out.k0
  go_wp2_with fail
  refine (S.out.zero 4 next (by simp) (by have := HK.out; omega)).mono ?_
  clear S x0 a0
  rintro e u ⟨rfl, o, S⟩
  have x0 := S.out.tx.x0
  have a0 := S.out.k0
  go_wp2_with fail
  refine (S.out.ut (txcommit2_any S.out.tx OK.out  (S.out.keep _ (.head _)) (by have := HK.out; omega))).mono ?_
  clear S x0 a0
  rintro e u ⟨rfl, o, S⟩
  have x0 := S.out.tx.x0
  have a0 := S.out.k0
  go_wp2_with fail
  refine (S.out.here next (by simp)).mono ?_
  clear S x0 a0
  rintro e u ⟨rfl, o, S⟩
  have x0 := S.out.tx.x0
  have a0 := S.out.k0
  go_wp2_with fail
  refine (S.out.with_ 1 6 1 3).mono ?_
  clear S x0 a0
  rintro e u ⟨rfl, o, S⟩
  have x0 := S.out.tx.x0
  have a0 := S.out.k0
  go_wp2_with fail
  refine (S.out.jump loop (by simp) (by have := HK.out; omega)).mono ?_
  clear S x0 a0
  rintro e u ⟨rfl, o, S⟩
  have x0 := S.out.tx.x0
  have a0 := S.out.k0
  go_wp2_with fail
  refine (S.out.here fin (by simp)).mono ?_
  clear S x0 a0
  rintro e u ⟨rfl, o, S⟩
  have x0 := S.out.tx.x0
  have a0 := S.out.k0
  go_wp2_with fail
  go_end0
  cases ffin.out
  cases fnext.out
  cases floop.out
  exact ⟨rfl, _, S.out.tx, S.out.turn, S.out.lab⟩
def Cd.stripes_r (t : TxC) (c0 : Cd) : Cd :=
  let loop := c0.labs.length
  let c1 := c0.label
  let next := c1.labs.length
  let c2 := c1.label
  let fin := c2.labs.length
  let c3 := c2.label
  let c4 := c3.set 6 0
  let c5 := c4.here loop
  let c6 := c5.move 4 6
  let c7 := c6.with_ 13 4 16 3
  let c8 := c7.zero 4 fin
  let c9 := c8.get t 4 6
  let c10 := c9.calc 10 4 6
  let c11 := c10.with_ 6 4 1 3
  let c12 := c11.zero 4 next
  let c13 := c12.commit3 t
  let c14 := c13.here next
  let c15 := c14.with_ 1 6 1 3
  let c16 := c15.jump loop
  let c17 := c16.here fin
  c17
theorem txstripes_r_any {c0 : Cd} {ba : Nat} (h : TxAt w own br bc tv t c0 k) (ok : TxOk t) (hka : Keep w own ba (.cells #[.pointer (some ⟨br, 0, none⟩)] 323 (0, 0))) (hk : k ≤ 1099509000000) :
    Calls Tryz.prog 217 #[.pointer (some ⟨br, 0, none⟩), .int .i64 6, .func (.func 220) #[] #[.pointer (some ⟨ba, 0, none⟩)]] w (EmT own w br bc tv t c0 (c0.stripes_r t) (k + 6)) := by
  have OK := hidI ok
  have HK := hidI hk
  have S := hidI ((Sq.start h).kp hka)
  have x0 := S.out.tx.x0
  have a0 := S.out.k0
  clear h ok hk hka
  go_enter Tryz.func217, Tryz.ntmps217
  go_wp2_with fail
  have S0 := hidI S.out.drew
  clear S
  go_region_held3 (fun w' => w'.cell? ⟨br, 0, none⟩ = some (.pointer (some ⟨bc, 0, none⟩)) ∧ w'.cell? ⟨ba, 0, none⟩ = some (.pointer (some ⟨br, 0, none⟩))) (refine ⟨?_, ?_⟩ <;> first | assumption | simp only [World.cell?_drew, *]) (first
    | (go_at_call 180; refine (S2.out.label (by have := HK.out; omega)).mono ?_; clear S2 x0 a0; rintro e u ⟨fin, o, rfl, ffin, S3⟩; have x0 := S3.out.tx.x0; have a0 := S3.out.k0)
    | (go_at_call 180; refine (S1.out.label (by have := HK.out; omega)).mono ?_; clear S1 x0 a0; rintro e u ⟨next, o, rfl, fnext, S2⟩; have x0 := S2.out.tx.x0; have a0 := S2.out.k0)
    | (go_at_call 180; refine (S0.out.label (by have := HK.out; omega)).mono ?_; clear S0 x0 a0; rintro e u ⟨loop, o, rfl, floop, S1⟩; have x0 := S1.out.tx.x0; have a0 := S1.out.k0)
    )
  have S := S3
  clear S3
  go_wp2_with fail
  refine (S.out.set 6 0).mono ?_
  clear S x0 a0
  rintro e u ⟨rfl, o, S⟩
  have x0 := S.out.tx.x0
  have a0 := S.out.k0
  go_wp2_with fail
  refine (S.out.here loop (by simp)).mono ?_
  clear S x0 a0
  rintro e u ⟨rfl, o, S⟩
  have x0 := S.out.tx.x0
  have a0 := S.out.k0
  go_wp2_with fail
  refine (S.out.move 4 6).mono ?_
  clear S x0 a0
  rintro e u ⟨rfl, o, S⟩
  have x0 := S.out.tx.x0
  have a0 := S.out.k0
  go_wp2_with fail
  refine (S.out.with_ 13 4 16 3).mono ?_
  clear S x0 a0
  rintro e u ⟨rfl, o, S⟩
  have x0 := S.out.tx.x0
  have a0 := S.out.k0
  go_wp2_with fail
  refine (S.out.zero 4 fin (by simp) (by have := HK.out; omega)).mono ?_
  clear S x0 a0
  rintro e u ⟨rfl, o, S⟩
  have x0 := S.out.tx.x0
  have a0 := S.out.k0
  go_wp2_with fail
  refine (S.out.get OK.out 4 6 (by decide)).mono ?_
  clear S x0 a0
  rintro e u ⟨rfl, o, S⟩
  have x0 := S.out.tx.x0
  have a0 := S.out.k0
  go_wp2_with fail
  refine (S.out.calc 10 4 6).mono ?_
  clear S x0 a0
  rintro e u ⟨rfl, o, S⟩
  have x0 := S.out.tx.x0
  have a0 := S.out.k0
  go_wp2_with fail
  refine (S.out.with_ 6 4 1 3).mono ?_
  clear S x0 a0
  rintro e u ⟨rfl, o, S⟩
  have x0 := S.out.tx.x0
  have a0 := S.out.k0
  go_wp2_with fail
  refine (S.out.zero 4 next (by simp) (by have := HK.out; omega)).mono ?_
  clear S x0 a0
  rintro e u ⟨rfl, o, S⟩
  have x0 := S.out.tx.x0
  have a0 := S.out.k0
  go_wp2_with fail
  refine (S.out.ut (txcommit3_any S.out.tx OK.out  (S.out.keep _ (.head _)) (by have := HK.out; omega))).mono ?_
  clear S x0 a0
  rintro e u ⟨rfl, o, S⟩
  have x0 := S.out.tx.x0
  have a0 := S.out.k0
  go_wp2_with fail
  refine (S.out.here next (by simp)).mono ?_
  clear S x0 a0
  rintro e u ⟨rfl, o, S⟩
  have x0 := S.out.tx.x0
  have a0 := S.out.k0
  go_wp2_with fail
  refine (S.out.with_ 1 6 1 3).mono ?_
  clear S x0 a0
  rintro e u ⟨rfl, o, S⟩
  have x0 := S.out.tx.x0
  have a0 := S.out.k0
  go_wp2_with fail
  refine (S.out.jump loop (by simp) (by have := HK.out; omega)).mono ?_
  clear S x0 a0
  rintro e u ⟨rfl, o, S⟩
  have x0 := S.out.tx.x0
  have a0 := S.out.k0
  go_wp2_with fail
  refine (S.out.here fin (by simp)).mono ?_
  clear S x0 a0
  rintro e u ⟨rfl, o, S⟩
  have x0 := S.out.tx.x0
  have a0 := S.out.k0
  go_wp2_with fail
  go_end0
  cases ffin.out
  cases fnext.out
  cases floop.out
  exact ⟨rfl, _, S.out.tx, S.out.turn, S.out.lab⟩
end Go.Proofs.YtgodmogkhgilmaaGreatDoor

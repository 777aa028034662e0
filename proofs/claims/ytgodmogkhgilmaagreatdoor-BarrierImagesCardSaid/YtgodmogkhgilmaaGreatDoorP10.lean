/- Part of the proof: EmE -/
import Derived.Test.YtgodmogkhgilmaaGreatDoorP09
namespace Go.Proofs.YtgodmogkhgilmaaGreatDoor
open Go.RowKit Go.Maps
set_option linter.unusedVariables false
set_option linter.unusedSimpArgs false
set_option maxHeartbeats 4000000
set_option maxRecDepth 100000
variable {w w' w1 w2 : World} {own own1 own2 : Nat → Prop} {bc k br : Nat} {tv : Value} {t : TxC}
def Cd.locks1 (t : TxC) (c0 : Cd) : Cd :=
  let c1 := c0.load 3 5 0
  let c2 := c1.with_ 6 3 15 4
  let c3 := c2.set 4 1
  let c4 := c3.calc 9 4 3
  let c5 := c4.calc 7 2 4
  c5
theorem txlocks1_any {c0 : Cd} {ba : Nat} (h : TxAt w own br bc tv t c0 k) (ok : TxOk t) (hka : Keep w own ba (.cells #[.pointer (some ⟨br, 0, none⟩)] 323 (0, 0))) (hk : k ≤ 1099510000000) :
    Calls Tryz.prog 238 #[.pointer (some ⟨ba, 0, none⟩)] w (EmT own w br bc tv t c0 (c0.locks1 t) (k + 0)) := by
  have OK := hidI ok
  have HK := hidI hk
  have S := hidI ((Sq.start h).kp hka)
  have x0 := S.out.tx.x0
  have a0 := S.out.k0
  clear h ok hk hka
  go_enter Tryz.func238, Tryz.ntmps238
  go_wp2_with fail
  refine (S.out.load 3 5 0).mono ?_
  clear S x0 a0
  rintro e u ⟨rfl, o, S⟩
  have x0 := S.out.tx.x0
  have a0 := S.out.k0
  go_wp2_with fail
  refine (S.out.with_ 6 3 15 4).mono ?_
  clear S x0 a0
  rintro e u ⟨rfl, o, S⟩
  have x0 := S.out.tx.x0
  have a0 := S.out.k0
  go_wp2_with fail
  refine (S.out.set 4 1).mono ?_
  clear S x0 a0
  rintro e u ⟨rfl, o, S⟩
  have x0 := S.out.tx.x0
  have a0 := S.out.k0
  go_wp2_with fail
  refine (S.out.calc 9 4 3).mono ?_
  clear S x0 a0
  rintro e u ⟨rfl, o, S⟩
  have x0 := S.out.tx.x0
  have a0 := S.out.k0
  go_wp2_with fail
  refine (S.out.calc 7 2 4).mono ?_
  clear S x0 a0
  rintro e u ⟨rfl, o, S⟩
  have x0 := S.out.tx.x0
  have a0 := S.out.k0
  go_wp2_with fail
  go_end0
  exact ⟨rfl, _, S.out.tx, S.out.turn, S.out.lab⟩
def Cd.commit1 (t : TxC) (c0 : Cd) : Cd :=
  let c1 := c0.load 2 5 0
  let c2 := c1.load 3 5 1
  let c3 := c2.store 2 0 3
  c3
theorem txcommit1_any {c0 : Cd} {ba : Nat} (h : TxAt w own br bc tv t c0 k) (ok : TxOk t) (hka : Keep w own ba (.cells #[.pointer (some ⟨br, 0, none⟩)] 323 (0, 0))) (hk : k ≤ 1099510000000) :
    Calls Tryz.prog 216 #[.pointer (some ⟨ba, 0, none⟩)] w (EmT own w br bc tv t c0 (c0.commit1 t) (k + 0)) := by
  have OK := hidI ok
  have HK := hidI hk
  have S := hidI ((Sq.start h).kp hka)
  have x0 := S.out.tx.x0
  have a0 := S.out.k0
  clear h ok hk hka
  go_enter Tryz.func216, Tryz.ntmps216
  go_wp2_with fail
  refine (S.out.load 2 5 0).mono ?_
  clear S x0 a0
  rintro e u ⟨rfl, o, S⟩
  have x0 := S.out.tx.x0
  have a0 := S.out.k0
  go_wp2_with fail
  refine (S.out.load 3 5 1).mono ?_
  clear S x0 a0
  rintro e u ⟨rfl, o, S⟩
  have x0 := S.out.tx.x0
  have a0 := S.out.k0
  go_wp2_with fail
  refine (S.out.store 2 0 3).mono ?_
  clear S x0 a0
  rintro e u ⟨rfl, o, S⟩
  have x0 := S.out.tx.x0
  have a0 := S.out.k0
  go_wp2_with fail
  go_end0
  exact ⟨rfl, _, S.out.tx, S.out.turn, S.out.lab⟩
def Cd.commit2 (t : TxC) (c0 : Cd) : Cd :=
  let c1 := c0.lock t
  let c2 := c1.store 5 0 1
  c2
theorem txcommit2_any {c0 : Cd} {ba : Nat} (h : TxAt w own br bc tv t c0 k) (ok : TxOk t) (hka : Keep w own ba (.cells #[.pointer (some ⟨br, 0, none⟩)] 323 (0, 0))) (hk : k ≤ 1099510000000) :
    Calls Tryz.prog 218 #[.pointer (some ⟨ba, 0, none⟩)] w (EmT own w br bc tv t c0 (c0.commit2 t) (k + 0)) := by
  have OK := hidI ok
  have HK := hidI hk
  have S := hidI ((Sq.start h).kp hka)
  have x0 := S.out.tx.x0
  have a0 := S.out.k0
  clear h ok hk hka
  go_enter Tryz.func218, Tryz.ntmps218
  go_wp2_with fail
  refine (S.out.ut (txlock_any S.out.tx OK.out  (by have := HK.out; omega))).mono ?_
  clear S x0 a0
  rintro e u ⟨rfl, o, S⟩
  have x0 := S.out.tx.x0
  have a0 := S.out.k0
  go_wp2_with fail
  refine (S.out.store 5 0 1).mono ?_
  clear S x0 a0
  rintro e u ⟨rfl, o, S⟩
  have x0 := S.out.tx.x0
  have a0 := S.out.k0
  go_wp2_with fail
  go_end0
  exact ⟨rfl, _, S.out.tx, S.out.turn, S.out.lab⟩
def Cd.commit3 (t : TxC) (c0 : Cd) : Cd :=
  let c1 := c0.old t
  let c2 := c1.load 2 5 0
  let c3 := c2.lock t
  let c4 := c3.store 5 0 2
  c4
theorem txcommit3_any {c0 : Cd} {ba : Nat} (h : TxAt w own br bc tv t c0 k) (ok : TxOk t) (hka : Keep w own ba (.cells #[.pointer (some ⟨br, 0, none⟩)] 323 (0, 0))) (hk : k ≤ 1099510000000) :
    Calls Tryz.prog 220 #[.pointer (some ⟨ba, 0, none⟩)] w (EmT own w br bc tv t c0 (c0.commit3 t) (k + 0)) := by
  have OK := hidI ok
  have HK := hidI hk
  have S := hidI ((Sq.start h).kp hka)
  have x0 := S.out.tx.x0
  have a0 := S.out.k0
  clear h ok hk hka
  go_enter Tryz.func220, Tryz.ntmps220
  go_wp2_with fail
  refine (S.out.ut (txold_any S.out.tx OK.out  (by have := HK.out; omega))).mono ?_
  clear S x0 a0
  rintro e u ⟨rfl, o, S⟩
  have x0 := S.out.tx.x0
  have a0 := S.out.k0
  go_wp2_with fail
  refine (S.out.load 2 5 0).mono ?_
  clear S x0 a0
  rintro e u ⟨rfl, o, S⟩
  have x0 := S.out.tx.x0
  have a0 := S.out.k0
  go_wp2_with fail
  refine (S.out.ut (txlock_any S.out.tx OK.out  (by have := HK.out; omega))).mono ?_
  clear S x0 a0
  rintro e u ⟨rfl, o, S⟩
  have x0 := S.out.tx.x0
  have a0 := S.out.k0
  go_wp2_with fail
  refine (S.out.store 5 0 2).mono ?_
  clear S x0 a0
  rintro e u ⟨rfl, o, S⟩
  have x0 := S.out.tx.x0
  have a0 := S.out.k0
  go_wp2_with fail
  go_end0
  exact ⟨rfl, _, S.out.tx, S.out.turn, S.out.lab⟩
end Go.Proofs.YtgodmogkhgilmaaGreatDoor

/- Package tso: Events, At, Waiting of a machine that lives. -/
import Derived.Test.YtopdcjimpdalpaaGreatTsoY
namespace Go.Proofs.YtopdcjimpdalpaaGreat
open Go.RowKit
set_option linter.unusedVariables false
set_option linter.unusedSimpArgs false

variable {w w' : World} {base b : Nat} {own own' : Nat → Nat} {mm : MM} {xs : List TX} {mv tv ev : Value}

set_option maxHeartbeats 1000000 in
theorem events_any (h : MAt w base b own mm xs mv tv ev) (hl : mm.evs.length ≤ 1000000000) :
    Calls Tryz.prog 69 #[.pointer (some ⟨b, 0, none⟩)] w (CloneRow 127 4 encEv mm.evs w) := by
  obtain ⟨ao, cp, rfl⟩ := ownsRow_shape h.evs
  have c3 := h.wcell 3 _ rfl
  have HR := hidI (Rd.of_own h.evs)
  have HL := hidI hl
  clear h hl
  go_enter Tryz.func69, Tryz.ntmps69
  go_wp2_with fail
  refine (cloneEvs_any HR.out HL.out).mono ?_
  rintro e w1 ⟨cv, rfl, ho, hb⟩
  have HO := hidI ho
  have HB := hidI hb
  clear ho hb
  go_wp2_with fail
  go_ret
  exact ⟨_, rfl, HO.out, HB.out⟩

end Go.Proofs.YtopdcjimpdalpaaGreat

/- The walk of TlNames. (Written by mknames.py.) -/
import Derived.Test.YtimepfmbienbkaaTlP
namespace Go.Proofs.Ytimepfmbienbkaa
open Go.RowKit

def nameOps : List Tx := [⟨0, 1, 0, 0⟩, ⟨0, 2, 1, 0⟩, ⟨1, 1, 0, 0⟩, ⟨1, 3, 1, 7⟩, ⟨1, 4, 0, 0⟩, ⟨1, 4, 0, 0⟩, ⟨1, 4, 0, 0⟩, ⟨1, 4, 0, 0⟩, ⟨0, 3, 2, 1⟩, ⟨0, 4, 0, 0⟩, ⟨0, 4, 0, 0⟩]
def nameEvs : List Ev := [⟨0, 1, 0, 0⟩, ⟨0, 2, 1, 0⟩, ⟨1, 1, 0, 0⟩, ⟨1, 3, 1, 7⟩, ⟨1, 7, 1, 1⟩, ⟨0, 3, 2, 1⟩, ⟨0, 8, 0, 0⟩]
def noneOps : List Tx := [⟨0, 4, 0, 0⟩, ⟨0, 2, 1, 0⟩, ⟨1, 3, 0, 3⟩]
theorem name_evs : (runT 2 2 nameOps).evs = nameEvs := by rfl
theorem name_mem : (runT 2 2 nameOps).mem = [0, 7, 0] := by rfl
theorem none_evs : (runT 2 2 noneOps).evs = [] := by rfl
theorem none_mem : (runT 2 2 noneOps).mem = [0, 0, 0] := by rfl

set_option maxHeartbeats 2000000 in
theorem names_any (w : World) : Calls Try.prog 6 #[] w fun e w' => e = .returned (.bool true) ∧ Below w.heap.size w w' := by
  go_enter Try.func6, Try.ntmps6
  go_wp2_with fail
  refine (begin_tx _ _).mono ?_
  rintro e w1 ⟨rfl, b1⟩
  go_wp2_with fail
  refine (read_tx _ _ _).mono ?_
  rintro e w2 ⟨rfl, b2⟩
  have b2 := bnext b1 b2
  clear b1
  go_wp2_with fail
  refine (begin_tx _ _).mono ?_
  rintro e w3 ⟨rfl, b3⟩
  have b3 := bnext b2 b3
  clear b2
  go_wp2_with fail
  refine (write_tx _ _ _ _).mono ?_
  rintro e w4 ⟨rfl, b4⟩
  have b4 := bnext b3 b4
  clear b3
  go_wp2_with fail
  refine (step_tx _ _).mono ?_
  rintro e w5 ⟨rfl, b5⟩
  have b5 := bnext b4 b5
  clear b4
  go_wp2_with fail
  refine (step_tx _ _).mono ?_
  rintro e w6 ⟨rfl, b6⟩
  have b6 := bnext b5 b6
  clear b5
  go_wp2_with fail
  refine (step_tx _ _).mono ?_
  rintro e w7 ⟨rfl, b7⟩
  have b7 := bnext b6 b7
  clear b6
  go_wp2_with fail
  refine (step_tx _ _).mono ?_
  rintro e w8 ⟨rfl, b8⟩
  have b8 := bnext b7 b8
  clear b7
  go_wp2_with fail
  refine (write_tx _ _ _ _).mono ?_
  rintro e w9 ⟨rfl, b9⟩
  have b9 := bnext b8 b9
  clear b8
  go_wp2_with fail
  refine (step_tx _ _).mono ?_
  rintro e w10 ⟨rfl, b10⟩
  have b10 := bnext b9 b10
  clear b9
  go_wp2_with fail
  refine (step_tx _ _).mono ?_
  rintro e w11 ⟨rfl, b11⟩
  have b11 := bnext b10 b11
  clear b10
  have HB := hidI b11
  clear b11
  go_wp2_with fail
  refine (run_ok (l := nameOps) (rdt_lit encTx_len (block_new w11 _) rfl) 2 2 (by decide) (by decide) (by decide) nameEvs [0, 7, 0] name_evs name_mem).mono ?_
  rintro e wa ⟨eo, ec, g, rfl, ba, hev, hmem, -⟩
  have HBA := hidI (bnextA HB.out ba)
  have HE := hidI hev
  have HM := hidI hmem
  clear ba hev hmem
  go_wp2_with fail
  refine (step_tx _ _).mono ?_
  rintro e w12 ⟨rfl, b12⟩
  go_wp2_with fail
  refine (read_tx _ _ _).mono ?_
  rintro e w13 ⟨rfl, b13⟩
  have b13 := bnext b12 b13
  clear b12
  go_wp2_with fail
  refine (write_tx _ _ _ _).mono ?_
  rintro e w14 ⟨rfl, b14⟩
  have b14 := bnext b13 b14
  clear b13
  have HB2 := hidI b14
  clear b14
  go_wp2_with fail
  refine (run_ok (l := noneOps) (rdt_lit encTx_len (block_new w14 _) rfl) 2 2 (by decide) (by decide) (by decide) [] [0, 0, 0] none_evs none_mem).mono ?_
  rintro e wb ⟨fo, fc, h, rfl, bb, -, hmem, -⟩
  have HBB := hidI (bnextA HB2.out bb)
  have HM2 := hidI hmem
  clear bb hmem
  go_wp2_with fail
  refine (run_refused (l := []) rfl (-1) 1 (e := 1) (by rfl)).mono ?_
  rintro e wr0 ⟨rfl, br0⟩
  go_wp2_with fail
  refine (run_refused (l := []) rfl 1 (-1) (e := 1) (by rfl)).mono ?_
  rintro e wr1 ⟨rfl, br1⟩
  have br1 := bnext br0 br1
  clear br0
  go_wp2_with fail
  refine (run_refused (l := []) rfl 1 5 (e := 3) (by rfl)).mono ?_
  rintro e wr2 ⟨rfl, br2⟩
  have br2 := bnext br1 br2
  clear br1
  go_wp2_with fail
  refine (run_refused (l := []) rfl 65537 1 (e := 3) (by rfl)).mono ?_
  rintro e wr3 ⟨rfl, br3⟩
  have br3 := bnext br2 br3
  clear br2
  have HBR := hidI (bnext HBB.out br3)
  have hev := Rd.below HE.out HBR.out
  obtain ⟨g6, o6, rfl, _, hc6⟩ := RdT.at (enc := encEv) encEv_len hev (k := 6) (x := ⟨0, 8, 0, 0⟩) rfl
  have d0 := hc6 0 _ rfl
  have d1 := hc6 1 _ rfl
  have d2 := hc6 2 _ rfl
  have d3 := hc6 3 _ rfl
  have HM3 := hidI (blk HBR.out HM.out)
  have HM4 := hidI (blk br3 HM2.out)
  have HBR2 := hidI (bnext HBA.out HBR.out)
  clear hc6 hev br3
  go_wp2_with fail
  refine (sameWides_true (l := [0, 7, 0]) (Rd.alloc (rdt_mem (n := 3) HM3.out rfl) _) (rdt_lit encI_len (block_new wr3 _) rfl) (by decide)).mono ?_
  rintro e wc ⟨rfl, bc⟩
  have HBC := hidI bc
  have HM5 := hidI (blkA bc HM4.out)
  clear bc d0 d1 d2 d3
  go_wp2_with fail
  refine (sameWides_true (l := [0, 0, 0]) (Rd.alloc (rdt_mem (n := 3) HM5.out rfl) _) (rdt_lit encI_len (block_new wc _) rfl) (by decide)).mono ?_
  rintro e wd ⟨rfl, bd⟩
  have HBD := hidI bd
  clear bd
  go_wp2_with fail
  refine (lives_any _).mono ?_
  rintro e wl ⟨rfl, bl⟩
  have HBL := hidI bl
  clear bl
  go_wp2_with fail
  go_ret
  exact ⟨rfl, bnext (bnextA (bnextA HBR2.out HBC.out) HBD.out) HBL.out⟩

end Go.Proofs.Ytimepfmbienbkaa

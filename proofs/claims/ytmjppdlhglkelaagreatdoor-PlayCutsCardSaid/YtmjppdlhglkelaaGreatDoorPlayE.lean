/- Package play: Run refuses. -/
import Derived.Test.YtmjppdlhglkelaaGreatDoorPlayC
import Derived.Test.YtmjppdlhglkelaaGreatDoorTsoR
namespace Go.Proofs.YtmjppdlhglkelaaGreatDoor
open Go.RowKit
set_option linter.unusedVariables false
set_option linter.unusedSimpArgs false

variable {w w' : World}

def runE (mem : Int) (l : List (Value × List OpD)) (cs : List (Int × Int)) (sc : List PickD) : Int := if checkM mem l cs ≠ 0 then checkM mem l cs else (lengthS sc).2

set_option maxRecDepth 100000 in
set_option maxHeartbeats 1000000 in
theorem run_no {ca cca sa : Option Addr} {ccap ccca scap : Nat} {l : List (Value × List OpD)} {cs : List (Int × Int)} {sc : List PickD} (h : CodeAt w (.slice ca l.length ccap) l) (hc : RdT encCell w 2 (.slice cca cs.length ccca) cs) (mem : Int) (hl : l.length ≤ 6000000000000) (hcl : cs.length ≤ 9000000000000)
    (hs : RdT encPk w 3 (.slice sa sc.length scap) sc) (hm : sc.length ≤ 9000000000000) (hn : ∀ p ∈ sc, -9223372036854775808 ≤ p.n ∧ 0 ≤ p.kind) (he : runE mem l cs sc ≠ 0) :
    Calls Tryz.prog 102 #[.agg #[.slice ca l.length ccap, .int .i64 mem, .slice cca cs.length ccca], .slice sa sc.length scap] w fun e w' =>
      e = .returned (.tuple #[.agg #[.slice none 0 0, .slice none 0 0, .int .i64 0], .int .i64 (runE mem l cs sc)]) ∧ Below w.heap.size w w' := by
  have H := hidI h
  have HC := hidI hc
  have HS := hidI hs
  have HN := hidI hn
  have HL := hidI hl
  have HCL := hidI hcl
  have HM := hidI hm
  have HE := hidI he
  clear h hc hs hn hl hcl hm he
  have hmf : ∀ (fn : Fn) (first cap : Array Value) (w : World), (Instr.makeFunc fn first cap).run Tryz.prog w = .ok (.func fn first cap) w := fun _ _ _ _ => rfl
  go_enter Tryz.func102, Tryz.ntmps102
  have hb0 : Below w.heap.size w ((w.alloc (.cells #[.slice ca l.length ccap, .int .i64 mem, .slice cca cs.length ccca] 87)).alloc (.cells #[.slice none 0 0, .slice none 0 0, .int .i64 0] 81)) := ((Below.refl w.heap.size w).alloc (Nat.le_refl _) _).alloc (by simp) _
  have htr := block_new2 w (.cells #[.slice ca l.length ccap, .int .i64 mem, .slice cca cs.length ccca] 87) (.cells #[.slice none 0 0, .slice none 0 0, .int .i64 0] 81)
  have H0 := hidI (H.out.below hb0)
  have HC0 := hidI (Rd.below HC.out hb0)
  have HB0 := hidI hb0
  have HTR := hidI htr
  clear hb0 htr
  by_cases hk : checkM mem l cs = 0
  · go_wp2_with fail
    refine (new_yes H0.out HC0.out mem HL.out HCL.out hk).mono ?_
    rintro e w1 ⟨b, own, xs, mv, tv, rfl, hma, hb⟩
    have HB := hidI (bnextAA (Below.refl w.heap.size w) hb)
    have HT1 := hidI (blk hb HTR.out)
    have hr : runE mem l cs sc = (lengthS sc).2 := by unfold runE; rw [if_neg (by simpa using hk)]
    have he2 : (lengthS sc).2 ≠ 0 := by rw [← hr]; exact HE.out
    have HRR := hidI hr
    clear hma hb HTR hk hr
    go_wp2_with fail
    have hbx : Below w1.heap.size w1 (w1.alloc (.cells #[.pointer (some ⟨b, 0, none⟩)] 287)) := (Below.refl _ _).alloc (Nat.le_refl _) _
    refine (length_any (Rd.below HS.out (bnext HB.out hbx)) HM.out HN.out).mono ?_
    rintro e w2 ⟨rfl, hb⟩
    have hbr := blk hb (blk hbx HT1.out)
    have fr0 := free_of_block (o := 0) hbr
    have fr1 := free_of_block (o := 1) hbr
    have fr2 := free_of_block (o := 2) hbr
    have rr0 := cell_of_block (o := 0) hbr rfl
    have rr1 := cell_of_block (o := 1) hbr rfl
    have rr2 := cell_of_block (o := 2) hbr rfl
    have HB2 := hidI (bnext (bnext HB.out hbx) hb)
    have HBR := hidI hbr
    clear hb hbx HT1 HB hbr
    generalize (lengthS sc).1 = n1 at *
    generalize (lengthS sc).2 = er at *
    have heq : (er == 0) = false := by simpa using he2
    go_wp2_with fail
    have hr3 := block_setCell (o := 2) (.int .i64 0) (block_setCell (o := 1) (.slice none 0 0) (block_setCell (o := 0) (.slice none 0 0) HBR.out))
    refine bodyPost_ret (v := .tuple #[.agg #[.slice none 0 0, .slice none 0 0, .int .i64 0], .int .i64 er]) ?_ rfl ?_
    · have c0 := cell_of_block (o := 0) hr3 rfl
      have c1 := cell_of_block (o := 1) hr3 rfl
      have c2 := cell_of_block (o := 2) hr3 rfl
      simp [results, Tryz.results102, go_sem, c0, c1, c2]
    · rw [HRR.out]
      exact ⟨rfl, ((HB2.out.setCell (by simp) _).setCell (by simp) _).setCell (by simp) _⟩
  · go_wp2_with fail
    refine (new_no H0.out HC0.out mem HL.out HCL.out hk).mono ?_
    rintro e w1 ⟨rfl, hb⟩
    have hbx : Below w1.heap.size w1 (w1.alloc (.cells #[.pointer none] 287)) := (Below.refl _ _).alloc (Nat.le_refl _) _
    have hbr := blk hbx (blk hb HTR.out)
    have fr0 := free_of_block (o := 0) hbr
    have fr1 := free_of_block (o := 1) hbr
    have fr2 := free_of_block (o := 2) hbr
    have rr0 := cell_of_block (o := 0) hbr rfl
    have rr1 := cell_of_block (o := 1) hbr rfl
    have rr2 := cell_of_block (o := 2) hbr rfl
    have HB2 := hidI (bnext (bnextAA (Below.refl w.heap.size w) hb) hbx)
    have HBR := hidI hbr
    have hr : runE mem l cs sc = checkM mem l cs := by unfold runE; rw [if_pos hk]
    have HRR := hidI hr
    clear hb hbx hbr hr HTR HE
    generalize checkM mem l cs = er at *
    have heq : (er == 0) = false := by simpa using hk
    go_wp2_with fail
    have hr3 := block_setCell (o := 2) (.int .i64 0) (block_setCell (o := 1) (.slice none 0 0) (block_setCell (o := 0) (.slice none 0 0) HBR.out))
    refine bodyPost_ret (v := .tuple #[.agg #[.slice none 0 0, .slice none 0 0, .int .i64 0], .int .i64 er]) ?_ rfl ?_
    · have c0 := cell_of_block (o := 0) hr3 rfl
      have c1 := cell_of_block (o := 1) hr3 rfl
      have c2 := cell_of_block (o := 2) hr3 rfl
      simp [results, Tryz.results102, go_sem, c0, c1, c2]
    · rw [HRR.out]
      exact ⟨rfl, ((HB2.out.setCell (by simp) _).setCell (by simp) _).setCell (by simp) _⟩
end Go.Proofs.YtmjppdlhglkelaaGreatDoor

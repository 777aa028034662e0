/- Put together by merge.py out of XPlayE.lean.tpl, XPlayL.lean.tpl. -/
import Derived.Test.YthmmbldhbdnfpaaGreatDoorMPlayA
import Derived.Test.YthmmbldhbdnfpaaGreatDoorTsoR
import Derived.Test.YthmmbldhbdnfpaaGreatDoorPlayR
import Derived.Laws.Rows
namespace Go.Proofs.YthmmbldhbdnfpaaGreatDoor
open Go.RowKit
set_option linter.unusedVariables false
set_option linter.unusedSimpArgs false

section
variable {w w' : World}

def runE (mem : Int) (l : List (Value × List OpD)) (cs : List (Int × Int)) (sc : List PickD) : Int := if checkM mem l cs ≠ 0 then checkM mem l cs else (lengthS sc).2

set_option maxRecDepth 100000 in
set_option maxHeartbeats 1000000 in
theorem run_no {ca cca sa : Option Addr} {ccap ccca scap : Nat} {l : List (Value × List OpD)} {cs : List (Int × Int)} {sc : List PickD} (h : CodeAt w (.slice ca l.length ccap) l) (hc : RdT encCell w 2 (.slice cca cs.length ccca) cs) (mem : Int) (hl : l.length ≤ 6000000000000) (hcl : cs.length ≤ 9000000000000)
    (hs : RdT encPk w 3 (.slice sa sc.length scap) sc) (hm : sc.length ≤ 9000000000000) (hn : ∀ p ∈ sc, -9223372036854775808 ≤ p.n ∧ 0 ≤ p.kind) (he : runE mem l cs sc ≠ 0) :
    Calls Tryz.prog 22 #[.agg #[.slice ca l.length ccap, .int .i64 mem, .slice cca cs.length ccca], .slice sa sc.length scap] w fun e w' =>
      e = .returned (.tuple #[.agg #[.slice none 0 0, .slice none 0 0, .int .i64 0], .int .i64 (runE mem l cs sc)]) ∧ Below w.heap.size w w' := by
  have H := hidI h
  have HC := hidI hc
  have HS := hidI hs
  have HN := hidI hn
  have HL := hidI hl
  have HCL := hidI hcl
  have HM := hidI hm
  have HE := hidI he
  clear h hc hs hn hl hcl hm he
  have hmf : ∀ (fn : Fn) (first cap : Array Value) (w : World), (Instr.makeFunc fn first cap).run Tryz.prog w = .ok (.func fn first cap) w := fun _ _ _ _ => rfl
  go_enter Tryz.func22, Tryz.ntmps22
  have hb0 : Below w.heap.size w ((w.alloc (.cells #[.slice ca l.length ccap, .int .i64 mem, .slice cca cs.length ccca] 25)).alloc (.cells #[.slice none 0 0, .slice none 0 0, .int .i64 0] 60)) := ((Below.refl w.heap.size w).alloc (Nat.le_refl _) _).alloc (by simp) _
  have htr := block_new2 w (.cells #[.slice ca l.length ccap, .int .i64 mem, .slice cca cs.length ccca] 25) (.cells #[.slice none 0 0, .slice none 0 0, .int .i64 0] 60)
  have H0 := hidI (H.out.below hb0)
  have HC0 := hidI (Rd.below HC.out hb0)
  have HB0 := hidI hb0
  have HTR := hidI htr
  clear hb0 htr
  by_cases hk : checkM mem l cs = 0
  · go_wp2_with fail
    refine (new_yes H0.out HC0.out mem HL.out HCL.out hk).mono ?_
    rintro e w1 ⟨b, own, xs, mv, tv, rfl, hma, hb⟩
    have HB := hidI (bnextAA (Below.refl w.heap.size w) hb)
    have HT1 := hidI (blk hb HTR.out)
    have hr : runE mem l cs sc = (lengthS sc).2 := by unfold runE; rw [if_neg (by simpa using hk)]
    have he2 : (lengthS sc).2 ≠ 0 := by rw [← hr]; exact HE.out
    have HRR := hidI hr
    clear hma hb HTR hk hr
    go_wp2_with fail
    have hbx : Below w1.heap.size w1 (w1.alloc (.cells #[.pointer (some ⟨b, 0, none⟩)] 30)) := (Below.refl _ _).alloc (Nat.le_refl _) _
    refine (length_any (Rd.below HS.out (bnext HB.out hbx)) HM.out HN.out).mono ?_
    rintro e w2 ⟨rfl, hb⟩
    have hbr := blk hb (blk hbx HT1.out)
    have fr0 := free_of_block (o := 0) hbr
    have fr1 := free_of_block (o := 1) hbr
    have fr2 := free_of_block (o := 2) hbr
    have rr0 := cell_of_block (o := 0) hbr rfl
    have rr1 := cell_of_block (o := 1) hbr rfl
    have rr2 := cell_of_block (o := 2) hbr rfl
    have HB2 := hidI (bnext (bnext HB.out hbx) hb)
    have HBR := hidI hbr
    clear hb hbx HT1 HB hbr
    generalize (lengthS sc).1 = n1 at *
    generalize (lengthS sc).2 = er at *
    have heq : (er == 0) = false := by simpa using he2
    go_wp2_with fail
    have hr3 := block_setCell (o := 2) (.int .i64 0) (block_setCell (o := 1) (.slice none 0 0) (block_setCell (o := 0) (.slice none 0 0) HBR.out))
    refine bodyPost_ret (v := .tuple #[.agg #[.slice none 0 0, .slice none 0 0, .int .i64 0], .int .i64 er]) ?_ rfl ?_
    · have c0 := cell_of_block (o := 0) hr3 rfl
      have c1 := cell_of_block (o := 1) hr3 rfl
      have c2 := cell_of_block (o := 2) hr3 rfl
      simp [results, Tryz.results22, go_sem, c0, c1, c2]
    · rw [HRR.out]
      exact ⟨rfl, ((HB2.out.setCell (by simp) _).setCell (by simp) _).setCell (by simp) _⟩
  · go_wp2_with fail
    refine (new_no H0.out HC0.out mem HL.out HCL.out hk).mono ?_
    rintro e w1 ⟨rfl, hb⟩
    have hbx : Below w1.heap.size w1 (w1.alloc (.cells #[.pointer none] 30)) := (Below.refl _ _).alloc (Nat.le_refl _) _
    have hbr := blk hbx (blk hb HTR.out)
    have fr0 := free_of_block (o := 0) hbr
    have fr1 := free_of_block (o := 1) hbr
    have fr2 := free_of_block (o := 2) hbr
    have rr0 := cell_of_block (o := 0) hbr rfl
    have rr1 := cell_of_block (o := 1) hbr rfl
    have rr2 := cell_of_block (o := 2) hbr rfl
    have HB2 := hidI (bnext (bnextAA (Below.refl w.heap.size w) hb) hbx)
    have HBR := hidI hbr
    have hr : runE mem l cs sc = checkM mem l cs := by unfold runE; rw [if_pos hk]
    have HRR := hidI hr
    clear hb hbx hbr hr HTR HE
    generalize checkM mem l cs = er at *
    have heq : (er == 0) = false := by simpa using hk
    go_wp2_with fail
    have hr3 := block_setCell (o := 2) (.int .i64 0) (block_setCell (o := 1) (.slice none 0 0) (block_setCell (o := 0) (.slice none 0 0) HBR.out))
    refine bodyPost_ret (v := .tuple #[.agg #[.slice none 0 0, .slice none 0 0, .int .i64 0], .int .i64 er]) ?_ rfl ?_
    · have c0 := cell_of_block (o := 0) hr3 rfl
      have c1 := cell_of_block (o := 1) hr3 rfl
      have c2 := cell_of_block (o := 2) hr3 rfl
      simp [results, Tryz.results22, go_sem, c0, c1, c2]
    · rw [HRR.out]
      exact ⟨rfl, ((HB2.out.setCell (by simp) _).setCell (by simp) _).setCell (by simp) _⟩
end

section
variable {w w' : World}

theorem lit_rows {α : Type} {enc : α → List Value} {sz g : Nat} {T : TypeId} {l : List α} (he : ∀ a, (enc a).length = sz) (hg : w.heap[g]? = some (.cells (l.flatMap enc).toArray T (0, 0))) : RdT enc w sz (.slice (some ⟨g, 0, none⟩) l.length l.length) l :=
  ⟨flat_len he l, some ⟨g, 0, none⟩, l.length, rfl, Nat.le_refl _, fun _ => ⟨g, 0, rfl, lt_of_block hg, fun j u hj => by
    rw [Nat.zero_add]
    exact cell_of_block hg (by rw [List.getElem?_toArray]; exact hj)⟩⟩

def tellsOps : List OpD := [⟨1, 0, 1, 0, 0, 5⟩, ⟨11, 0, 1, 0, 0, 0⟩, ⟨14, 0, 0, 0, 0, 0⟩]
set_option maxHeartbeats 1000000 in
theorem tells_any (w : World) : Calls Tryz.prog 163 #[] w fun e w' => ∃ ca cc v, e = .returned (.agg #[.slice ca 1 cc, .int .i64 2, .slice none 0 0]) ∧ CodeAt w' (.slice ca 1 cc) [(v, tellsOps)] ∧ Below w.heap.size w w' := by
  go_enter Tryz.func163, Tryz.ntmps163
  go_wp2_with fail
  have e0 := (heap_alloc_old ((w.alloc (.cells #[.slice (some ⟨w.heap.size + 1 + 1, 0, none⟩) 1 1, .int .i64 2, .slice none 0 0] 25)).alloc (.cells (tellsOps.flatMap encOp).toArray 44)) (.cells #[.slice (some ⟨w.heap.size + 1, 0, none⟩) 3 3] 40) (show w.heap.size < _ by simp; omega)).trans
    ((heap_alloc_old (w.alloc (.cells #[.slice (some ⟨w.heap.size + 1 + 1, 0, none⟩) 1 1, .int .i64 2, .slice none 0 0] 25)) (.cells (tellsOps.flatMap encOp).toArray 44) (show w.heap.size < _ by simp)).trans (heap_alloc_new w _))
  have e1 := (heap_alloc_old ((w.alloc (.cells #[.slice (some ⟨w.heap.size + 1 + 1, 0, none⟩) 1 1, .int .i64 2, .slice none 0 0] 25)).alloc (.cells (tellsOps.flatMap encOp).toArray 44)) (.cells #[.slice (some ⟨w.heap.size + 1, 0, none⟩) 3 3] 40) (show w.heap.size + 1 < _ by simp)).trans
    (block_new2 w (.cells #[.slice (some ⟨w.heap.size + 1 + 1, 0, none⟩) 1 1, .int .i64 2, .slice none 0 0] 25) (.cells (tellsOps.flatMap encOp).toArray 44))
  have e2 := block_new2 (w.alloc (.cells #[.slice (some ⟨w.heap.size + 1 + 1, 0, none⟩) 1 1, .int .i64 2, .slice none 0 0] 25)) (.cells (tellsOps.flatMap encOp).toArray 44) (.cells #[.slice (some ⟨w.heap.size + 1, 0, none⟩) 3 3] 40)
  rw [World.size_alloc] at e2
  have hb : Below w.heap.size w (((w.alloc (.cells #[.slice (some ⟨w.heap.size + 1 + 1, 0, none⟩) 1 1, .int .i64 2, .slice none 0 0] 25)).alloc (.cells (tellsOps.flatMap encOp).toArray 44)).alloc (.cells #[.slice (some ⟨w.heap.size + 1, 0, none⟩) 3 3] 40)) :=
    (((Below.refl w.heap.size w).alloc (Nat.le_refl _) _).alloc (by simp) _).alloc (by simp; omega) _
  refine bodyPost_ret (results_cell_row rfl _ _ _ _ #[.slice (some ⟨w.heap.size + 1 + 1, 0, none⟩) 1 1, .int .i64 2, .slice none 0 0] (0, 0) _ rfl e0 Tryz.underlying25 rfl (by kernel_rfl)) rfl ?_
  refine ⟨_, _, .slice (some ⟨w.heap.size + 1, 0, none⟩) 3 3, rfl, ?_, hb⟩
  exact lit_code (l := [(.slice (some ⟨w.heap.size + 1, 0, none⟩) 3 3, tellsOps)]) (T := 40) e2 (fun p hp => by
    rw [List.mem_singleton.1 hp]
    exact lit_ops (l := tellsOps) e1) (fun p hp => by
    rw [List.mem_singleton.1 hp]
    show ∀ o ∈ tellsOps, wfOp o
    decide)

def livesSc : List PickD := [⟨0, 1, 9⟩, ⟨0, 0, 9⟩]
def livesEnd : MM × Int := doActs (newM 2 [tellsOps] [], 0) (actsS livesSc)
theorem livesEnd_seen : livesEnd.1.ths.map (fun t => (t.out, t.fin)) = [([5], 1)] := by kernel_rfl
theorem livesEnd_steps : livesEnd.2 = 3 := by kernel_rfl
theorem livesEnd_evs : livesEnd.1.evs.length = 2 := by kernel_rfl

set_option maxRecDepth 100000 in
set_option maxHeartbeats 1000000 in
theorem lives21 (w : World) : Calls Tryz.prog 28 #[] w fun e w' => e = .returned (.bool true) ∧ Below w.heap.size w w' := by
  go_enter Tryz.func28, Tryz.ntmps28
  go_wp2_with fail
  refine (tells_any w).mono ?_
  rintro e w1 ⟨ca, cc, cv, rfl, hc, hb1⟩
  have HC := hidI hc
  have HB1 := hidI hb1
  clear hc hb1
  go_wp2_with fail
  have hbl : Below w1.heap.size w1 (w1.alloc (.cells (livesSc.flatMap encPk).toArray 169)) := (Below.refl _ _).alloc (Nat.le_refl _) _
  refine (run_yes (l := [(cv, tellsOps)]) (cs := []) (sc := livesSc) (HC.out.below hbl) (Rd.nil _ 2) 2 (by simp) (by simp) (by rfl) (lit_rows (l := livesSc) encPk_len (block_new _ _)) (by decide) (by decide) (by rfl)).mono ?_
  rintro e w2 ⟨ga, ls, ve, vec, rfl, hrow, hse, -, hms, hev, -, hb2⟩
  rw [show doActs (newM 2 (List.map (·.2) [(cv, tellsOps)]) [], 0) (actsS livesSc) = livesEnd from rfl] at hms hev ⊢
  rw [livesEnd_seen] at hms
  obtain ⟨s, rfl⟩ : ∃ s, ls = [s] := by
    cases ls with
    | nil => simp at hms
    | cons s r =>
      cases r with
      | nil => exact ⟨s, rfl⟩
      | cons s2 r => simp at hms
  have ho : s.out = [5] ∧ s.fin = 1 := by simpa using hms
  obtain ⟨sv, so, sf⟩ := s
  obtain ⟨rfl, rfl⟩ := ho
  have hs1 := (hse _ (List.mem_singleton.2 rfl)).1
  obtain ⟨sao, sc, hsv⟩ := ownsRow_shape hs1
  simp only at hsv
  subst hsv
  obtain ⟨gb, co, e1, hgb, hcc⟩ := RdT.at encS_len (Rd.of_own hrow) (k := 0) (x := ⟨.slice sao [(5 : Int)].length sc, [5], 1⟩) rfl
  cases e1
  have i0 : w2.cell? ⟨ga, 0, none⟩ = some (.slice sao 1 sc) := by have := hcc 0 _ rfl; simpa using this
  have i1 : w2.cell? ⟨ga, 1, none⟩ = some (.int .u8 1) := by have := hcc 1 _ rfl; simpa using this
  rw [livesEnd_steps, livesEnd_evs]
  have i0a := fun o => cell_allocU i0 o
  have i1a := fun o => cell_allocU i1 o
  have HS1 := hidI (Rd.of_own hs1)
  have HB2 := hidI (HB1.out.trans ((bnext hbl hb2).mono HB1.out.size))
  clear hrow hse hms hev hb2 hcc hs1 hgb
  go_wp2_with fail
  have hbt : Below w2.heap.size w2 ((w2.alloc (.cells #[.slice (some ⟨ga, 0, none⟩) 1 1, .slice ve 2 vec, .int .i64 3] 60)).alloc (.cells #[.int .i64 5] 2)) := ((Below.refl _ _).alloc (Nat.le_refl _) _).alloc (by simp) _
  have hlit : RdT encI ((w2.alloc (.cells #[.slice (some ⟨ga, 0, none⟩) 1 1, .slice ve 2 vec, .int .i64 3] 60)).alloc (.cells #[.int .i64 5] 2)) 1 (.slice (some ⟨w2.heap.size + 1, 0, none⟩) [(5 : Int)].length [(5 : Int)].length) [5] :=
    lit_rows (l := [5]) (T := 2) encI_len (block_new2 _ _ _)
  refine (sameWides_true (l := [5]) (Rd.below HS1.out hbt) hlit (by simp)).mono ?_
  rintro e w3 ⟨rfl, hb3⟩
  have HB3 := hidI (HB2.out.trans ((bnext hbt hb3).mono HB2.out.size))
  have hbr := blk hb3 (block_alloc (o := .cells #[.int .i64 5] 2) (block_new w2 (.cells #[.slice (some ⟨ga, 0, none⟩) 1 1, .slice ve 2 vec, .int .i64 3] 60)))
  have r1 : w3.cell? ⟨w2.heap.size, 1, none⟩ = some (.slice ve 2 vec) := cell_of_block hbr rfl
  clear hb3 hbr hlit hbt i0 i1 i0a i1a
  go_wp2_with fail
  go_ret
  exact ⟨rfl, HB3.out⟩
end

end Go.Proofs.YthmmbldhbdnfpaaGreatDoor

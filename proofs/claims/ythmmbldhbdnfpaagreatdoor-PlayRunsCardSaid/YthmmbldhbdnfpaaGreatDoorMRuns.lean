/- Put together by merge.py out of XRefN.lean.tpl, XBkT.lean.tpl, XRuns.lean.tpl. -/
import Derived.Test.YthmmbldhbdnfpaaGreatDoorRefM
import Derived.Test.YthmmbldhbdnfpaaGreatDoorMPlayM
import Derived.Test.YthmmbldhbdnfpaaGreatDoorMBk
import Derived.Test.YthmmbldhbdnfpaaGreatDoorMTsoU
import Derived.Test.YthmmbldhbdnfpaaGreatDoorMTwin
import Derived.Deep.RegionHeld3
namespace Go.Proofs.YthmmbldhbdnfpaaGreatDoor
open Go.RowKit
set_option linter.unusedVariables false
set_option linter.unusedSimpArgs false

section
variable {w w' : World} {base b N : Nat} {mm : MM}

set_option maxRecDepth 100000 in
set_option maxHeartbeats 1000000 in
theorem rrun_no {ca cca : Option Addr} {ccap ccca : Nat} {l : List (Value × List OpD)} {cs : List (Int × Int)} (h : CodeAt w (.slice ca l.length ccap) l) (hc : RdT encCell w 2 (.slice cca cs.length ccca) cs) (mem : Int) (hl : l.length ≤ 6000000000000) (hcl : cs.length ≤ 9000000000000) (hol : ∀ p ∈ l, p.2.length ≤ 9000000000000)
    {so : Option Addr} {sc : Nat} {sl : List PickD} (hs : RdT encPk w 3 (.slice so sl.length sc) sl) (hm : sl.length ≤ 9000000000000) (he : runE mem l cs sl ≠ 0) :
    Calls Tryz.prog 23 #[.agg #[.slice ca l.length ccap, .int .i64 mem, .slice cca cs.length ccca], .slice so sl.length sc] w fun e w' =>
      e = .returned (.tuple #[.agg #[.slice none 0 0, .slice none 0 0, .int .i64 0], .int .i64 (runE mem l cs sl)]) ∧ Below w.heap.size w w' := by
  have H := hidI h
  have HC := hidI hc
  have HL := hidI hl
  have HCL := hidI hcl
  have HOL := hidI hol
  have HS := hidI hs
  have HM := hidI hm
  have HE := hidI he
  clear h hc hl hcl hol hs hm he
  go_enter Tryz.func23, Tryz.ntmps23
  have hb0 : Below w.heap.size w ((w.alloc (.cells #[.slice ca l.length ccap, .int .i64 mem, .slice cca cs.length ccca] 25)).alloc (.cells #[.slice none 0 0, .slice none 0 0, .int .i64 0] 60)) := ((Below.refl _ _).alloc (Nat.le_refl _) _).alloc (by simp) _
  have htr := block_new2 w (.cells #[.slice ca l.length ccap, .int .i64 mem, .slice cca cs.length ccca] 25) (.cells #[.slice none 0 0, .slice none 0 0, .int .i64 0] 60)
  have H0 := hidI (H.out.below hb0)
  have HC0 := hidI (Rd.below HC.out hb0)
  have HB0 := hidI hb0
  have HTR := hidI htr
  clear hb0 htr
  by_cases hk : checkM mem l cs = 0
  · go_wp2_with fail
    refine (rnew_yes H0.out HC0.out mem HL.out HCL.out HOL.out hk).mono ?_
    rintro e w1 ⟨b, own, xs, mv, tv, ev, rfl, hr, hb⟩
    have HB := hidI (bnextAA (Below.refl w.heap.size w) hb)
    have HT1 := hidI (blk hb HTR.out)
    have hr : runE mem l cs sl = (lengthS sl).2 := by unfold runE; rw [if_neg (by simpa using hk)]
    have he2 : (lengthS sl).2 ≠ 0 := by rw [← hr]; exact HE.out
    have HRR := hidI hr
    clear hb HTR hk hr
    go_wp2_with fail
    refine (lengthR_any (Rd.below HS.out HB.out) HM.out).mono ?_
    rintro e w2 ⟨rfl, hb⟩
    have hbr := blk hb HT1.out
    have fr0 := free_of_block (o := 0) hbr
    have fr1 := free_of_block (o := 1) hbr
    have fr2 := free_of_block (o := 2) hbr
    have rr0 := cell_of_block (o := 0) hbr rfl
    have rr1 := cell_of_block (o := 1) hbr rfl
    have rr2 := cell_of_block (o := 2) hbr rfl
    have HB2 := hidI (bnext HB.out hb)
    have HBR := hidI hbr
    clear hb HT1 HB hbr
    generalize (lengthS sl).1 = n1 at *
    generalize (lengthS sl).2 = er at *
    have heq : (er == 0) = false := by simpa using he2
    go_wp2_with fail
    have hr3 := block_setCell (o := 2) (.int .i64 0) (block_setCell (o := 1) (.slice none 0 0) (block_setCell (o := 0) (.slice none 0 0) HBR.out))
    refine bodyPost_ret (v := .tuple #[.agg #[.slice none 0 0, .slice none 0 0, .int .i64 0], .int .i64 er]) ?_ rfl ?_
    · have c0 := cell_of_block (o := 0) hr3 rfl
      have c1 := cell_of_block (o := 1) hr3 rfl
      have c2 := cell_of_block (o := 2) hr3 rfl
      simp [results, Tryz.results23, go_sem, c0, c1, c2]
    · rw [HRR.out]
      exact ⟨rfl, ((HB2.out.setCell (by simp) _).setCell (by simp) _).setCell (by simp) _⟩
  · go_wp2_with fail
    refine (rnew_no H0.out HC0.out mem HL.out HCL.out HOL.out hk).mono ?_
    rintro e w1 ⟨rfl, hb⟩
    have hbr := blk hb HTR.out
    have fr0 := free_of_block (o := 0) hbr
    have fr1 := free_of_block (o := 1) hbr
    have fr2 := free_of_block (o := 2) hbr
    have rr0 := cell_of_block (o := 0) hbr rfl
    have rr1 := cell_of_block (o := 1) hbr rfl
    have rr2 := cell_of_block (o := 2) hbr rfl
    have HB2 := hidI (bnextAA (Below.refl w.heap.size w) hb)
    have HBR := hidI hbr
    have hr : runE mem l cs sl = checkM mem l cs := by unfold runE; rw [if_pos hk]
    have HRR := hidI hr
    clear hb hbr hr HTR HE
    generalize checkM mem l cs = er at *
    have heq : (er == 0) = false := by simpa using hk
    go_wp2_with fail
    have hr3 := block_setCell (o := 2) (.int .i64 0) (block_setCell (o := 1) (.slice none 0 0) (block_setCell (o := 0) (.slice none 0 0) HBR.out))
    refine bodyPost_ret (v := .tuple #[.agg #[.slice none 0 0, .slice none 0 0, .int .i64 0], .int .i64 er]) ?_ rfl ?_
    · have c0 := cell_of_block (o := 0) hr3 rfl
      have c1 := cell_of_block (o := 1) hr3 rfl
      have c2 := cell_of_block (o := 2) hr3 rfl
      simp [results, Tryz.results23, go_sem, c0, c1, c2]
    · rw [HRR.out]
      exact ⟨rfl, ((HB2.out.setCell (by simp) _).setCell (by simp) _).setCell (by simp) _⟩

/-! ### the document's way of counting, and the program's -/
theorem onceR_eq {p : PickD} (h : 0 ≤ p.kind ∧ p.kind ≤ 2) (s : MM × Int) : onceR p s = doActs s (onceS p) := by
  unfold onceR onceS
  rcases (by omega : p.kind = 0 ∨ p.kind = 1 ∨ p.kind = 2) with e | e | e <;> rw [e] <;> rfl
theorem timesR_eq {p : PickD} (h : 0 ≤ p.kind ∧ p.kind ≤ 2) (s : MM × Int) : ∀ k, timesR p k s = doActs s (timesS p k)
  | 0 => rfl
  | k + 1 => by rw [timesR, timesS, doActs_app, timesR_eq h s k, onceR_eq h]
theorem actsR_eq (l : List PickD) : (∀ p ∈ l, 0 ≤ p.kind ∧ p.kind ≤ 2) → ∀ s : MM × Int, actsR l s = doActs s (actsS l) := by
  induction l with
  | nil => intro _ s; rfl
  | cons p l ih =>
    intro h s
    show actsR l (timesR p p.n.toNat s) = _
    rw [ih (fun q hq => h q (List.mem_cons_of_mem _ hq)), timesR_eq (h p (by simp))]
    show _ = doActs s (pickS p ++ actsS l)
    rw [doActs_app]
    rfl

/-- what is seen of a run: what each thread told and how it ended; the events; the steps; the code -/
structure RunV where
  seen : List (List Int × Int)
  evs : List Ev
  steps : Int
  code : Int
def runV (mem : Int) (l : List (List OpD)) (cs : List (Int × Int)) (e : Int) (sc : List PickD) : RunV :=
  if e = 0 then ⟨(doActs (newM mem l cs, 0) (actsS sc)).1.ths.map (fun t => (t.out, t.fin)), (doActs (newM mem l cs, 0) (actsS sc)).1.evs, (doActs (newM mem l cs, 0) (actsS sc)).2, 0⟩
  else ⟨[], [], 0, e⟩

/-- a trace that reads so -/
structure TraceRd (w : World) (v : RunV) (ao : Option Addr) (ac : Nat) (ls : List SX) (eo : Option Addr) (ec : Nat) : Prop where
  seen : SeenAt w (.slice ao ls.length ac) ls
  same : ls.map (fun s => (s.out, s.fin)) = v.seen
  evs : RdT encEv w 4 (.slice eo v.evs.length ec) v.evs
theorem TraceRd.below {v : RunV} {ao eo : Option Addr} {ac ec : Nat} {ls : List SX} (h : TraceRd w v ao ac ls eo ec) (hb : Below w.heap.size w w') : TraceRd w' v ao ac ls eo ec := ⟨h.seen.below hb, h.same, Rd.below h.evs hb⟩
/-- and is memory of its own -/
structure TraceOwn (w : World) (base : Nat) (v : RunV) (ao : Option Addr) (ac : Nat) (ls : List SX) (eo : Option Addr) (ec : Nat) : Prop where
  rows : w.ownsRow base 131 2 (.slice ao ls.length ac) ls.length (ls.flatMap encS)
  each : ∀ s ∈ ls, w.ownsRow base 2 1 s.v s.out.length (s.out.flatMap encI) ∧ ∀ g, s.v.ownBlock = some g → (Value.slice ao ls.length ac).ownBlock ≠ some g
  pw : ls.Pairwise ApartS
  same : ls.map (fun s => (s.out, s.fin)) = v.seen
  evs : w.ownsRow base 154 4 (.slice eo v.evs.length ec) v.evs.length (v.evs.flatMap encEv)
  evsA : ∀ g, (Value.slice eo v.evs.length ec).ownBlock = some g → (Value.slice ao ls.length ac).ownBlock ≠ some g ∧ ∀ s ∈ ls, s.v.ownBlock ≠ some g
theorem TraceOwn.rd {base : Nat} {v : RunV} {ao eo : Option Addr} {ac ec : Nat} {ls : List SX} (h : TraceOwn w base v ao ac ls eo ec) : TraceRd w v ao ac ls eo ec :=
  ⟨⟨Rd.of_own h.rows, fun s hs => Rd.of_own (h.each s hs).1⟩, h.same, Rd.of_own h.evs⟩
theorem TraceOwn.below {base : Nat} {v : RunV} {ao eo : Option Addr} {ac ec : Nat} {ls : List SX} (h : TraceOwn w base v ao ac ls eo ec) (hb : Below w.heap.size w w') : TraceOwn w' base v ao ac ls eo ec :=
  ⟨ownRow_keep h.rows fun g _ hl => hb.block g hl, fun s hs => ⟨ownRow_keep (h.each s hs).1 fun g _ hl => hb.block g hl, (h.each s hs).2⟩, h.pw, h.same, ownRow_keep h.evs fun g _ hl => hb.block g hl, h.evsA⟩
theorem TraceOwn.none {base : Nat} {e : Int} : TraceOwn w base ⟨[], [], 0, e⟩ none 0 [] none 0 :=
  ⟨World.ownsRow_nil _ _ _ _, fun s hs => absurd hs (by simp), List.Pairwise.nil, rfl, World.ownsRow_nil _ _ _ _, fun g hg => by cases hg⟩

/-- the program's Run -/
def RunP (v : RunV) (w : World) (e : Ending) (w' : World) : Prop :=
  ∃ ao ac ls eo ec, e = .returned (.tuple #[.agg #[.slice ao ls.length ac, .slice eo v.evs.length ec, .int .i64 v.steps], .int .i64 v.code]) ∧ TraceOwn w' w.heap.size v ao ac ls eo ec ∧ Below w.heap.size w w'
theorem run_p {ca cca sa : Option Addr} {ccap ccca scap : Nat} {l : List (Value × List OpD)} {cs : List (Int × Int)} {sc : List PickD} (h : CodeAt w (.slice ca l.length ccap) l) (hc : RdT encCell w 2 (.slice cca cs.length ccca) cs) (mem : Int) (hl : l.length ≤ 6000000000000) (hcl : cs.length ≤ 9000000000000)
    (hs : RdT encPk w 3 (.slice sa sc.length scap) sc) (hm : sc.length ≤ 9000000000000) (hn : ∀ p ∈ sc, -9223372036854775808 ≤ p.n ∧ 0 ≤ p.kind) :
    Calls Tryz.prog 22 #[.agg #[.slice ca l.length ccap, .int .i64 mem, .slice cca cs.length ccca], .slice sa sc.length scap] w (RunP (runV mem (l.map (·.2)) cs (runE mem l cs sc) sc) w) := by
  by_cases he : runE mem l cs sc = 0
  · have hk : checkM mem l cs = 0 := by
      unfold runE at he
      split at he
      · assumption
      · rename_i hc; simpa using hc
    have h2 : (lengthS sc).2 = 0 := by
      unfold runE at he
      rw [if_neg (by simpa using hk)] at he
      exact he
    refine (run_yes h hc mem hl hcl hk hs hm hn h2).mono ?_
    rintro e w1 ⟨ga, ls, ve, vec, rfl, hrow, hse, hpw, hms, hev, hea, hb⟩
    unfold runV
    rw [if_pos he]
    refine ⟨some ⟨ga, 0, none⟩, ls.length, ls, ve, vec, rfl, ⟨hrow, fun s hs => ⟨(hse s hs).1, fun g hg e => ?_⟩, hpw, hms, hev, fun g hg => ⟨fun e => ?_, (hea g hg).2⟩⟩, hb⟩
    · have := (hse s hs).2 g hg
      simp only [Value.ownBlock, Option.some.injEq] at e
      omega
    · have := (hea g hg).1
      simp only [Value.ownBlock, Option.some.injEq] at e
      omega
  · refine (run_no h hc mem hl hcl hs hm hn he).mono ?_
    rintro e w1 ⟨rfl, hb⟩
    unfold runV
    rw [if_neg he]
    exact ⟨none, 0, [], none, 0, rfl, TraceOwn.none, hb⟩
/-- the document's -/
def RunR (v : RunV) (w : World) (e : Ending) (w' : World) : Prop :=
  ∃ ao ac ls eo ec, e = .returned (.tuple #[.agg #[.slice ao ls.length ac, .slice eo v.evs.length ec, .int .i64 v.steps], .int .i64 v.code]) ∧ TraceRd w' v ao ac ls eo ec ∧ Below w.heap.size w w'
theorem run_r {ca cca sa : Option Addr} {ccap ccca scap : Nat} {l : List (Value × List OpD)} {cs : List (Int × Int)} {sc : List PickD} (h : CodeAt w (.slice ca l.length ccap) l) (hc : RdT encCell w 2 (.slice cca cs.length ccca) cs) (mem : Int) (hl : l.length ≤ 6000000000000) (hcl : cs.length ≤ 9000000000000) (hol : ∀ p ∈ l, p.2.length ≤ 9000000000000)
    (hs : RdT encPk w 3 (.slice sa sc.length scap) sc) (hm : sc.length ≤ 9000000000000) (hn : ∀ p ∈ sc, 0 ≤ p.kind ∧ (-9223372036854775808 ≤ p.n ∧ p.n ≤ 9223372036854775807)) :
    Calls Tryz.prog 23 #[.agg #[.slice ca l.length ccap, .int .i64 mem, .slice cca cs.length ccca], .slice sa sc.length scap] w (RunR (runV mem (l.map (·.2)) cs (runE mem l cs sc) sc) w) := by
  by_cases he : runE mem l cs sc = 0
  · have hk : checkM mem l cs = 0 := by
      unfold runE at he
      split at he
      · assumption
      · rename_i hc; simpa using hc
    have h2 : (lengthS sc).2 = 0 := by
      unfold runE at he
      rw [if_neg (by simpa using hk)] at he
      exact he
    refine (rrun_yes h hc mem hl hcl hol hk hs hn h2 (newM_ok h hk)).mono ?_
    rintro e w1 ⟨v, ls, ao, cap, rfl, hsa, hms, hev, hb⟩
    have hk2 : ∀ p ∈ sc, 0 ≤ p.kind ∧ p.kind ≤ 2 := fun p hp => by
      have h9 := List.any_eq_false.1 (lengthS_ok h2).2.1 p hp
      have h8 := (hn p hp).1
      unfold pbad at h9
      simp at h9
      omega
    rw [actsR_eq sc hk2] at hms hev ⊢
    unfold runV
    rw [if_pos he]
    obtain ⟨sa, sn, rfl⟩ := hsa.rows.shape
    exact ⟨sa, sn, ls, ao, cap, rfl, ⟨hsa, hms, hev⟩, hb⟩
  · refine (rrun_no h hc mem hl hcl hol hs hm he).mono ?_
    rintro e w1 ⟨rfl, hb⟩
    unfold runV
    rw [if_neg he]
    exact ⟨none, 0, [], none, 0, rfl, (TraceOwn.none (base := 0)).rd, hb⟩
end

section
variable {w0 w w' : World} {kb cnt : Nat} {ws : List (Nat × Obj)}

/-- whatever the book owns lies in memory that there is -/
theorem BkPlays.tight {w : World} {base kb cnt : Nat} {O : Nat → Prop} (h : BkPlays w base kb cnt O) : BkPlays w base kb cnt (fun g => O g ∧ g < w.heap.size) := by
  obtain ⟨C, hWide, hCell, hEvent, hSeen, eWide, eCell, eEvent, eSeen, h⟩ := h
  exact ⟨C, hWide, hCell, hEvent, hSeen, eWide, eCell, eEvent, eSeen, h.blk, h.csz, h.c0, h.cWide, h.cCell, h.cEvent, h.cSeen, h.cno, h.kWide, h.nWide, h.lWide, fun g hg => ⟨h.oWide g hg, (h.kWide.from hg).2⟩, h.kCell, h.nCell, h.lCell, fun g hg => ⟨h.oCell g hg, (h.kCell.from hg).2⟩, h.kEvent, h.nEvent, h.lEvent, fun g hg => ⟨h.oEvent g hg, (h.kEvent.from hg).2⟩, h.kSeen, h.nSeen, h.lSeen, fun g hg => ⟨h.oSeen g hg, (h.kSeen.from hg).2⟩, h.sWideCell, h.sWideEvent, h.sWideSeen, h.sCellEvent, h.sCellSeen, h.sEventSeen, h.cm⟩

/-- a row: its kind, where it lies, how long it is -/
structure RowK where
  k : Nat
  v : Value
  n : Nat
  cs : List Value
def rowT : Nat → TypeId
  | 0 => 2
  | 1 => 105
  | 2 => 154
  | _ => 131
def rowZ : Nat → Nat
  | 0 => 1
  | 1 => 2
  | 2 => 4
  | _ => 2
def ApartK (r s : RowK) : Prop := ∀ g, r.v.ownBlock = some g → s.v.ownBlock ≠ some g

/-- O: what the book owns -/
def LowK (w0 w : World) (rows : List RowK) (ws : List (Nat × Obj)) (O : Nat → Prop) : Prop := ∀ k, O k → (w0.heap.size ≤ k ∧ k < w.heap.size) ∧ (∀ r ∈ rows, r.v.ownBlock ≠ some k) ∧ ∀ p ∈ ws, p.1 ≠ k
/-- ws: blocks that are none of the book's, and stay -/
structure BkT (w0 w : World) (kb cnt : Nat) (rows : List RowK) (ws : List (Nat × Obj)) : Prop where
  bk : ∃ O, BkPlays w w0.heap.size kb cnt O ∧ LowK w0 w rows ws O
  wat : ∀ p ∈ ws, w.heap[p.1]? = some p.2 ∧ p.1 ≠ kb ∧ ∀ r ∈ rows, r.v.ownBlock ≠ some p.1
  own : ∀ r ∈ rows, w.ownsRow w0.heap.size (rowT r.k) (rowZ r.k) r.v r.n r.cs
  kbf : ∀ r ∈ rows, r.v.ownBlock ≠ some kb
  pw : rows.Pairwise ApartK
  kl : w0.heap.size ≤ kb ∧ kb < w.heap.size
  old : Below w0.heap.size w0 w

theorem BkT.start {rows : List RowK} (hb : Below w0.heap.size w0 w) (hown : ∀ r ∈ rows, w.ownsRow w0.heap.size (rowT r.k) (rowZ r.k) r.v r.n r.cs) (hpw : rows.Pairwise ApartK) (hws : ∀ p ∈ ws, w.heap[p.1]? = some p.2 ∧ ∀ r ∈ rows, r.v.ownBlock ≠ some p.1) :
    BkT w0 (w.alloc (.cells zeroBook 92)) w.heap.size 0 rows ws :=
  ⟨⟨fun _ => False, BkPlays.nil (block_new w _), fun k h => h.elim⟩, fun p hp => ⟨block_alloc (hws p hp).1, by have := lt_of_block (hws p hp).1; omega, (hws p hp).2⟩, fun r hr => ownRow_keep (hown r hr) fun k _ hl => ((Below.refl w.heap.size w).alloc (Nat.le_refl _) _).block k hl,
    fun r hr e => by have := (rowLt (hown r hr) e).2; omega, hpw, ⟨hb.size, by simp⟩, hb.alloc hb.size _⟩
theorem BkT.below {rows : List RowK} (h : BkT w0 w kb cnt rows ws) (hb : Below w.heap.size w w') : BkT w0 w' kb cnt rows ws := by
  obtain ⟨O, h1, h2⟩ := h.bk
  have hs := hb.size
  exact ⟨⟨O, h1.below hb, fun k hk => ⟨⟨(h2 k hk).1.1, by have := (h2 k hk).1.2; omega⟩, (h2 k hk).2⟩⟩, fun p hp => ⟨blk hb (h.wat p hp).1, (h.wat p hp).2⟩, fun r hr => ownRow_keep (h.own r hr) fun k _ hl => hb.block k hl, h.kbf, h.pw, ⟨h.kl.1, by have := h.kl.2; omega⟩, h.old.trans (hb.mono h.old.size)⟩
/-- a new block is watched -/
theorem BkT.watch {rows : List RowK} (h : BkT w0 w kb cnt rows ws) (o : Obj) : BkT w0 (w.alloc o) kb cnt rows ((w.heap.size, o) :: ws) := by
  have h1 := h.below ((Below.refl w.heap.size w).alloc (Nat.le_refl _) o)
  obtain ⟨O, h2, h3⟩ := h.bk
  refine ⟨⟨O, h2.below ((Below.refl w.heap.size w).alloc (Nat.le_refl _) o), fun k hk => ⟨⟨(h3 k hk).1.1, by have := (h3 k hk).1.2; simp; omega⟩, (h3 k hk).2.1, fun p hp e => ?_⟩⟩, fun p hp => ?_, h1.own, h1.kbf, h1.pw, h1.kl, h1.old⟩
  · rcases List.mem_cons.1 hp with rfl | hp
    · have := (h3 k hk).1.2
      simp only at e
      omega
    · exact (h3 k hk).2.2 p hp e
  · rcases List.mem_cons.1 hp with rfl | hp
    · exact ⟨block_new w o, by have := h.kl.2; simp only; omega, fun r hr e => by have := (rowLt (h.own r hr) e).2; omega⟩
    · exact h1.wat p hp
theorem BkT.unwatch {rows : List RowK} {ws' : List (Nat × Obj)} (h : BkT w0 w kb cnt rows ws) (hs : ∀ p ∈ ws', p ∈ ws) : BkT w0 w kb cnt rows ws' := by
  obtain ⟨O, h2, h3⟩ := h.bk
  exact ⟨⟨O, h2, fun k hk => ⟨(h3 k hk).1, (h3 k hk).2.1, fun p hp => (h3 k hk).2.2 p (hs p hp)⟩⟩, fun p hp => h.wat p (hs p hp), h.own, h.kbf, h.pw, h.kl, h.old⟩
/-- a new row -/
theorem BkT.add {rows : List RowK} {r : RowK} (h : BkT w0 w kb cnt rows ws) (hb : Below w.heap.size w w') (hown : w'.ownsRow w.heap.size (rowT r.k) (rowZ r.k) r.v r.n r.cs) : BkT w0 w' kb cnt (r :: rows) ws := by
  have h1 := h.below hb
  obtain ⟨O, h2, h3⟩ := h.bk
  have hs := hb.size
  refine ⟨⟨O, h2.below hb, fun k hk => ⟨⟨(h3 k hk).1.1, by have := (h3 k hk).1.2; omega⟩, fun s hs' => ?_, (h3 k hk).2.2⟩⟩, fun p hp => ⟨(h1.wat p hp).1, (h1.wat p hp).2.1, fun s hs' => ?_⟩, fun s hs' => ?_, fun s hs' => ?_, List.pairwise_cons.2 ⟨fun s hs' g hg e => ?_, h.pw⟩, h1.kl, h1.old⟩
  · rcases List.mem_cons.1 hs' with rfl | hs'
    · exact fun e => by have := (rowLt hown e).1; have := (h3 k hk).1.2; omega
    · exact (h3 k hk).2.1 s hs'
  · rcases List.mem_cons.1 hs' with rfl | hs'
    · exact fun e => by have := (rowLt hown e).1; have := lt_of_block (h.wat p hp).1; omega
    · exact (h.wat p hp).2.2 s hs'
  · rcases List.mem_cons.1 hs' with rfl | hs'
    · exact ownsRow_mono hown h.old.size
    · exact h1.own s hs'
  · rcases List.mem_cons.1 hs' with rfl | hs'
    · exact fun e => by have := (rowLt hown e).1; have := h.kl.2; omega
    · exact h.kbf s hs'
  · have := (rowLt hown hg).1
    have := (rowLt (h.own s hs') e).2
    omega
theorem BkT.free {r : RowK} {rows : List RowK} {O : Nat → Prop} (h : BkT w0 w kb cnt (r :: rows) ws) (hlow : LowK w0 w (r :: rows) ws O) : ∀ s ∈ r :: rows, ∀ g, s.v.ownBlock = some g → ¬ O g ∧ g ≠ kb := fun s hs g hg =>
  ⟨fun e => (hlow g e).2.1 s hs hg, fun e => h.kbf s hs (by rw [← e]; exact hg)⟩
/-- the first row is taken -/
theorem BkT.took {r : RowK} {rows : List RowK} {O : Nat → Prop} (h : BkT w0 w kb cnt (r :: rows) ws) (hlow : LowK w0 w (r :: rows) ws O)
    (hb : BkPlays w' w0.heap.size kb (cnt + 1) (fun g => O g ∨ w.heap.size ≤ g ∨ r.v.ownBlock = some g)) (hchg : Chg (fun k => k = kb ∨ O k) w w') : BkT w0 w' kb (cnt + 1) rows ws := by
  have hpw := List.pairwise_cons.1 h.pw
  have hs := hchg.size
  refine ⟨⟨_, hb.tight, fun k hk => ⟨⟨?_, hk.2⟩, fun s hs' e => ?_, fun p hp e => ?_⟩⟩, fun p hp => ⟨chgblk hchg (h.wat p hp).1 (fun e => ?_), (h.wat p hp).2.1, fun s hs' => (h.wat p hp).2.2 s (List.mem_cons_of_mem _ hs')⟩, fun s hs' => ?_, fun s hs' => h.kbf s (List.mem_cons_of_mem _ hs'), hpw.2, ⟨h.kl.1, by have := h.kl.2; omega⟩, ?_⟩
  · rcases hk.1 with e | e | e
    · exact (hlow k e).1.1
    · have := h.old.size; omega
    · exact (rowLt (h.own r (by simp)) e).1
  · rcases hk.1 with q | q | q
    · exact (hlow k q).2.1 s (List.mem_cons_of_mem _ hs') e
    · have := (rowLt (h.own s (List.mem_cons_of_mem _ hs')) e).2; omega
    · exact hpw.1 s hs' k q e
  · rcases hk.1 with q | q | q
    · exact (hlow k q).2.2 p hp e
    · have := lt_of_block (h.wat p hp).1; omega
    · exact (h.wat p hp).2.2 r (by simp) (by rw [e]; exact q)
  · rcases e with e | e
    · exact (h.wat p hp).2.1 e
    · exact (hlow _ e).2.2 p hp rfl
  · exact ownsRow_chg (h.own s (List.mem_cons_of_mem _ hs')) hchg (fun k hk e => by
      rcases e with e | e
      · exact h.kbf s (List.mem_cons_of_mem _ hs') (by rw [← e]; exact hk)
      · exact (hlow k e).2.1 s (List.mem_cons_of_mem _ hs') hk)
  · exact Chg.below h.old h.old.size hchg (fun k hk => by
      rcases hk with rfl | e
      · exact h.kl.1
      · exact (hlow k e).1.1)

theorem BkT.keepWide {r : RowK} {rows : List RowK} (hr : r.k = 0) (h : BkT w0 w kb cnt (r :: rows) ws) (hc : cnt < 4000000) (hn : r.n ≤ 4000000) :
    Calls Tryz.prog 197 #[.pointer (some ⟨kb, 0, none⟩), r.v] w fun e w' => e = .returned (.tuple #[]) ∧ BkT w0 w' kb (cnt + 1) rows ws := by
  obtain ⟨O, hbk, hlow⟩ := h.bk
  have hown : w.ownsRow w0.heap.size 2 1 r.v r.n r.cs := by
    have := h.own r (by simp)
    rw [hr] at this
    exact this
  obtain ⟨lo, lc, hv⟩ := ownsRow_shape hown
  rw [hv] at hown ⊢
  have hf := h.free hlow
  refine (bkPlays_keepWide hbk hc hn hown (fun g hg => by rw [← hv] at hg; exact hf r (by simp) g hg) h.old.size).mono ?_
  rintro e w' ⟨rfl, hb, hchg⟩
  rw [← hv] at hb
  exact ⟨rfl, h.took hlow hb hchg⟩

theorem BkT.keepCell {r : RowK} {rows : List RowK} (hr : r.k = 1) (h : BkT w0 w kb cnt (r :: rows) ws) (hc : cnt < 4000000) (hn : r.n ≤ 4000000) :
    Calls Tryz.prog 199 #[.pointer (some ⟨kb, 0, none⟩), r.v] w fun e w' => e = .returned (.tuple #[]) ∧ BkT w0 w' kb (cnt + 1) rows ws := by
  obtain ⟨O, hbk, hlow⟩ := h.bk
  have hown : w.ownsRow w0.heap.size 105 2 r.v r.n r.cs := by
    have := h.own r (by simp)
    rw [hr] at this
    exact this
  obtain ⟨lo, lc, hv⟩ := ownsRow_shape hown
  rw [hv] at hown ⊢
  have hf := h.free hlow
  refine (bkPlays_keepCell hbk hc hn hown (fun g hg => by rw [← hv] at hg; exact hf r (by simp) g hg) h.old.size).mono ?_
  rintro e w' ⟨rfl, hb, hchg⟩
  rw [← hv] at hb
  exact ⟨rfl, h.took hlow hb hchg⟩

theorem BkT.keepEvent {r : RowK} {rows : List RowK} (hr : r.k = 2) (h : BkT w0 w kb cnt (r :: rows) ws) (hc : cnt < 4000000) (hn : r.n ≤ 4000000) :
    Calls Tryz.prog 81 #[.pointer (some ⟨kb, 0, none⟩), r.v] w fun e w' => e = .returned (.tuple #[]) ∧ BkT w0 w' kb (cnt + 1) rows ws := by
  obtain ⟨O, hbk, hlow⟩ := h.bk
  have hown : w.ownsRow w0.heap.size 154 4 r.v r.n r.cs := by
    have := h.own r (by simp)
    rw [hr] at this
    exact this
  obtain ⟨lo, lc, hv⟩ := ownsRow_shape hown
  rw [hv] at hown ⊢
  have hf := h.free hlow
  refine (bkPlays_keepEvent hbk hc hn hown (fun g hg => by rw [← hv] at hg; exact hf r (by simp) g hg) h.old.size).mono ?_
  rintro e w' ⟨rfl, hb, hchg⟩
  rw [← hv] at hb
  exact ⟨rfl, h.took hlow hb hchg⟩

theorem BkT.keepSeen {r : RowK} {rows : List RowK} (hr : r.k = 3) (h : BkT w0 w kb cnt (r :: rows) ws) (hc : cnt < 4000000) (hn : r.n ≤ 4000000) :
    Calls Tryz.prog 198 #[.pointer (some ⟨kb, 0, none⟩), r.v] w fun e w' => e = .returned (.tuple #[]) ∧ BkT w0 w' kb (cnt + 1) rows ws := by
  obtain ⟨O, hbk, hlow⟩ := h.bk
  have hown : w.ownsRow w0.heap.size 131 2 r.v r.n r.cs := by
    have := h.own r (by simp)
    rw [hr] at this
    exact this
  obtain ⟨lo, lc, hv⟩ := ownsRow_shape hown
  rw [hv] at hown ⊢
  have hf := h.free hlow
  refine (bkPlays_keepSeen hbk hc hn hown (fun g hg => by rw [← hv] at hg; exact hf r (by simp) g hg) h.old.size).mono ?_
  rintro e w' ⟨rfl, hb, hchg⟩
  rw [← hv] at hb
  exact ⟨rfl, h.took hlow hb hchg⟩

/-- all are taken: whether they are apart -/
theorem BkT.done {rows : List RowK} (h : BkT w0 w kb cnt rows ws) :
    Calls Tryz.prog 26 #[.pointer (some ⟨kb, 0, none⟩)] w fun e w' => e = .returned (.bool true) ∧ Below w0.heap.size w0 w' := by
  obtain ⟨O, hbk, hlow⟩ := h.bk
  refine (bkPlays_apart hbk).mono ?_
  rintro e w' ⟨rfl, hc⟩
  exact ⟨rfl, Chg.below h.old h.old.size hc (fun k hk => (hlow k hk).1.1)⟩

def wideK (s : SX) : RowK := ⟨0, s.v, s.out.length, s.out.flatMap encI⟩
def seenK (v : Value) (ls : List SX) : RowK := ⟨3, v, ls.length, ls.flatMap encS⟩
def evK (v : Value) (es : List Ev) : RowK := ⟨2, v, es.length, es.flatMap encEv⟩
def cellK (v : Value) (cs : List (Int × Int)) : RowK := ⟨1, v, cs.length, cs.flatMap encCell⟩

set_option maxHeartbeats 1000000 in
theorem BkT.events {v : Value} {es : List Ev} {rows : List RowK} (h : BkT w0 w kb cnt (evK v es :: rows) ws) (hc : cnt < 4000000) (hn : es.length ≤ 4000000) :
    Calls Tryz.prog 72 #[.pointer (some ⟨kb, 0, none⟩), v] w fun e w' => e = .returned (.tuple #[]) ∧ BkT w0 w' kb (cnt + 1) rows ws := by
  have hsh : ∃ ao c, v = .slice ao es.length c := ownsRow_shape (h.own (evK v es) (by simp))
  obtain ⟨lo, lc, rfl⟩ := hsh
  have HK := hidI (BkT.keepEvent (r := evK _ es) rfl h hc hn)
  clear h hc hn
  go_enter Tryz.func72, Tryz.ntmps72
  go_wp2_with fail
  refine HK.out.mono ?_
  rintro e w1 ⟨rfl, h1⟩
  have HK1 := hidI h1
  clear h1
  go_wp2_with fail
  go_end0
  exact ⟨rfl, HK1.out⟩
set_option maxHeartbeats 1000000 in
theorem BkT.cells {v : Value} {cs : List (Int × Int)} {rows : List RowK} (h : BkT w0 w kb cnt (cellK v cs :: rows) ws) (hc : cnt < 4000000) (hn : cs.length ≤ 4000000) :
    Calls Tryz.prog 73 #[.pointer (some ⟨kb, 0, none⟩), v] w fun e w' => e = .returned (.tuple #[]) ∧ BkT w0 w' kb (cnt + 1) rows ws := by
  have hsh : ∃ ao c, v = .slice ao cs.length c := ownsRow_shape (h.own (cellK v cs) (by simp))
  obtain ⟨lo, lc, rfl⟩ := hsh
  have HK := hidI (BkT.keepCell (r := cellK _ cs) rfl h hc hn)
  clear h hc hn
  go_enter Tryz.func73, Tryz.ntmps73
  go_wp2_with fail
  refine HK.out.mono ?_
  rintro e w1 ⟨rfl, h1⟩
  have HK1 := hidI h1
  clear h1
  go_wp2_with fail
  go_end0
  exact ⟨rfl, HK1.out⟩

set_option maxHeartbeats 2000000 in
theorem BkT.seen {v : Value} {ls : List SX} {rows : List RowK} (h : BkT w0 w kb cnt (ls.map wideK ++ seenK v ls :: rows) ws) (hc : cnt + 5 < 4000000) (hl : ls.length ≤ 4) (hn : ∀ s ∈ ls, s.out.length ≤ 4000000) :
    Calls Tryz.prog 71 #[.pointer (some ⟨kb, 0, none⟩), v] w fun e w' => e = .returned (.tuple #[]) ∧ BkT w0 w' kb (cnt + ls.length + 1) rows ws := by
  have hsh : ∃ ao c, v = .slice ao ls.length c := ownsRow_shape (h.own (seenK v ls) (by simp))
  obtain ⟨lo, lc, rfl⟩ := hsh
  have HK := hidI h
  have HC := hidI hc
  have HN := hidI hn
  clear h hc hn
  go_enter Tryz.func71, Tryz.ntmps71
  go_wp2_with fail
  go_loopw [7] (fun i w' => ∃ k : Nat, k ≤ ls.length ∧ i = .int .i64 (k : Int) ∧ Hid (BkT w0 w' kb (cnt + k) ((ls.drop k).map wideK ++ seenK (.slice lo ls.length lc) ls :: rows) ws)) (fun i _ => ((ls.length : Int) - intOf i).toNat)
  case atStart => exact ⟨0, by omega, rfl, hidI (by simpa using HK.out)⟩
  case round =>
    obtain ⟨k, hk, rfl, HB⟩ := hrel
    by_cases hlt : k < ls.length
    · obtain ⟨s, hs⟩ := some_at hlt
      have hrd : RdT encS wr 2 (.slice lo ls.length lc) ls := Rd.of_own (HB.out.own (seenK (.slice lo ls.length lc) ls) (by simp))
      obtain ⟨b1, o1, rfl, hs1, hc1⟩ := RdT.at encS_len hrd hs
      have x0 := hc1 0 _ rfl
      simp only [Nat.add_zero] at x0
      have hdrop : ls.drop k = s :: ls.drop (k + 1) := by
        obtain ⟨hl', he⟩ := List.getElem?_eq_some_iff.1 hs
        rw [← he]; exact List.drop_eq_getElem_cons hl'
      have hB := HB.out
      rw [hdrop, List.map_cons, List.cons_append] at hB
      have hshs : ∃ ao c, s.v = .slice ao s.out.length c := ownsRow_shape (hB.own (wideK s) (by simp))
      obtain ⟨so, sc, hsv⟩ := hshs
      have HT := hidI (BkT.keepWide (r := wideK s) rfl hB (by have := HC.out; omega) (HN.out s (List.mem_of_getElem? hs)))
      have hT : Hid (Calls Tryz.prog 197 #[.pointer (some ⟨kb, 0, none⟩), .slice so s.out.length sc] wr fun e w' => e = .returned (.tuple #[]) ∧ BkT w0 w' kb (cnt + k + 1) ((ls.drop (k + 1)).map wideK ++ seenK (.slice (some ⟨b1, o1, none⟩) ls.length lc) ls :: rows) ws) := by
        have h9 := HT.out
        rw [show (wideK s).v = .slice so s.out.length sc from hsv] at h9
        exact hidI h9
      rw [hsv] at x0
      clear hrd hs1 hc1 hdrop hB HT hsv HB
      go_wp2_with fail
      refine hT.out.mono ?_
      rintro e w3 ⟨rfl, hb3⟩
      have HB3 := hidI hb3
      clear hb3
      go_wp2_with fail
      exact ⟨⟨k + 1, by omega, by go_num, HB3⟩, by simp [intOf]; omega⟩
    · obtain rfl : k = ls.length := by omega
      have hB := HB.out
      rw [List.drop_length, List.map_nil, List.nil_append] at hB
      have HT := hidI (BkT.keepSeen (r := seenK (.slice lo ls.length lc) ls) rfl hB (by have := HC.out; omega) (show ls.length ≤ 4000000 by omega))
      clear hB
      go_wp2_with fail
      refine HT.out.mono ?_
      rintro e w3 ⟨rfl, hb3⟩
      have HB3 := hidI hb3
      clear hb3
      go_wp2_with fail
      go_end0
      exact ⟨rfl, HB3.out⟩

/-- the rows of a trace -/
def traceK (ao : Option Addr) (ac : Nat) (ls : List SX) (eo : Option Addr) (ec : Nat) (es : List Ev) : List RowK := ls.map wideK ++ [seenK (.slice ao ls.length ac) ls, evK (.slice eo es.length ec) es]
theorem TraceOwn.rows_own {base : Nat} {v : RunV} {ao eo : Option Addr} {ac ec : Nat} {ls : List SX} (h : TraceOwn w base v ao ac ls eo ec) : ∀ r ∈ traceK ao ac ls eo ec v.evs, w.ownsRow base (rowT r.k) (rowZ r.k) r.v r.n r.cs := by
  intro r hr
  rcases List.mem_append.1 hr with hr | hr
  · obtain ⟨s, hs, rfl⟩ := List.mem_map.1 hr
    exact (h.each s hs).1
  · simp only [List.mem_cons, List.not_mem_nil, or_false] at hr
    rcases hr with rfl | rfl
    · exact h.rows
    · exact h.evs
theorem TraceOwn.rows_pw {base : Nat} {v : RunV} {ao eo : Option Addr} {ac ec : Nat} {ls : List SX} (h : TraceOwn w base v ao ac ls eo ec) : (traceK ao ac ls eo ec v.evs).Pairwise ApartK := by
  unfold traceK
  refine List.pairwise_append.2 ⟨List.pairwise_map.2 (h.pw.imp fun h => h), List.pairwise_cons.2 ⟨fun s hs g hg e => ?_, List.pairwise_singleton _ _⟩, fun r hr s hs g hg e => ?_⟩
  · rw [List.mem_singleton.1 hs] at e
    exact (h.evsA g e).1 hg
  · obtain ⟨x, hx, rfl⟩ := List.mem_map.1 hr
    simp only [List.mem_cons, List.not_mem_nil, or_false] at hs
    rcases hs with rfl | rfl
    · exact (h.each x hx).2 g hg e
    · exact (h.evsA g e).2 x hx hg

set_option maxHeartbeats 2000000 in
theorem BkT.trace {ao eo : Option Addr} {ac ec : Nat} {ls : List SX} {es : List Ev} {st : Int} {rows : List RowK} (h : BkT w0 w kb cnt (traceK ao ac ls eo ec es ++ rows) ws) (hc : cnt + 10 < 4000000) (hl : ls.length ≤ 4) (hn : ∀ s ∈ ls, s.out.length ≤ 4000000) (hen : es.length ≤ 4000000) :
    Calls Tryz.prog 25 #[.pointer (some ⟨kb, 0, none⟩), .agg #[.slice ao ls.length ac, .slice eo es.length ec, .int .i64 st]] w fun e w' => e = .returned (.tuple #[]) ∧ BkT w0 w' kb (cnt + ls.length + 2) rows ws := by
  have hb0 : Below w.heap.size w (w.alloc (.cells #[.slice ao ls.length ac, .slice eo es.length ec, .int .i64 st] 60)) := (Below.refl _ _).alloc (Nat.le_refl _) _
  have h1 := h.watch (.cells #[.slice ao ls.length ac, .slice eo es.length ec, .int .i64 st] 60)
  unfold traceK at h1
  rw [List.append_assoc] at h1
  have HK := hidI (BkT.seen h1 (by omega) hl hn)
  have HC := hidI hc
  have HE := hidI hen
  have hbx := block_new w (.cells #[.slice ao ls.length ac, .slice eo es.length ec, .int .i64 st] 60)
  have HBX := hidI hbx
  have HOLD := hidI h1.old
  clear h h1 hc hn hen hb0 hbx
  go_enter Tryz.func25, Tryz.ntmps25
  go_wp2_with fail
  refine HK.out.mono ?_
  rintro e w1 ⟨rfl, h1⟩
  have hbk := (h1.wat _ (List.mem_cons_self ..)).1
  have c1 : w1.cell? ⟨w.heap.size, 1, none⟩ = some (.slice eo es.length ec) := cell_of_block hbk rfl
  have H1 := hidI (h1.unwatch (ws' := ws) (fun p hp => List.mem_cons_of_mem _ hp))
  clear h1 hbk
  go_wp2_with fail
  refine (BkT.keepEvent (r := evK (.slice eo es.length ec) es) rfl H1.out (by have := HC.out; omega) HE.out).mono ?_
  rintro e w2 ⟨rfl, h2⟩
  have H2 := hidI h2
  clear h2
  go_wp2_with fail
  go_end0
  exact ⟨rfl, H2.out⟩
end

section
variable {w w' : World}

/-- a struct of three cells, laid in a new block -/
theorem box3 (w : World) (z0 z1 z2 u0 u1 u2 : Value) (t : TypeId) : ((((w.alloc (.cells #[z0, z1, z2] t)).setCell ⟨w.heap.size, 0, none⟩ u0).setCell ⟨w.heap.size, 1, none⟩ u1).setCell ⟨w.heap.size, 2, none⟩ u2).heap[w.heap.size]? = some (.cells #[u0, u1, u2] t (0, 0)) ∧
    Below w.heap.size w ((((w.alloc (.cells #[z0, z1, z2] t)).setCell ⟨w.heap.size, 0, none⟩ u0).setCell ⟨w.heap.size, 1, none⟩ u1).setCell ⟨w.heap.size, 2, none⟩ u2) :=
  ⟨block_setCell (o := 2) u2 (block_setCell (o := 1) u1 (block_setCell (o := 0) u0 (block_new w (.cells #[z0, z1, z2] t)))), ((((Below.refl _ _).alloc (Nat.le_refl _) _).setCell (Nat.le_refl _) _).setCell (Nat.le_refl _) _).setCell (Nat.le_refl _) _⟩
theorem runE_snd {mem : Int} {l l' : List (Value × List OpD)} {cs : List (Int × Int)} {sc : List PickD} (h : l.map (·.2) = l'.map (·.2)) : runE mem l cs sc = runE mem l' cs sc := by
  unfold runE
  rw [checkM_snd h]
/-- how great what is seen of a run may be -/
theorem runV_bounds {v0 : Value} {l : List (Value × List OpD)} {cs : List (Int × Int)} {mem : Int} {sc : List PickD} (h : CodeAt w v0 l) :
    (runV mem (l.map (·.2)) cs (runE mem l cs sc) sc).seen.length ≤ 4 ∧ (∀ p ∈ (runV mem (l.map (·.2)) cs (runE mem l cs sc) sc).seen, p.1.length ≤ 1048576) ∧ (runV mem (l.map (·.2)) cs (runE mem l cs sc) sc).evs.length ≤ 1048576 := by
  by_cases he : runE mem l cs sc = 0
  · have hk : checkM mem l cs = 0 := by
      unfold runE at he
      split at he
      · assumption
      · rename_i hc; simpa using hc
    have h2 : (lengthS sc).2 = 0 := by
      unfold runE at he
      rw [if_neg (by simpa using hk)] at he
      exact he
    have h3 := lengthS_ok h2
    have hlen : (actsS sc).length ≤ 1048576 := by
      have h4 := acts_len h3.2.1 (short_of_total h3.2.1 h3.2.2.1)
      have h5 := h3.2.2.1
      omega
    have hM := acts_ok (actsS sc) (S := (newM mem (l.map (·.2)) cs, 0)) (newM_ok h hk)
    unfold runV
    rw [if_pos he]
    refine ⟨by rw [List.length_map]; exact hM.four, fun p hp => ?_, by have := hM.evs; simp only; omega⟩
    obtain ⟨t, ht, rfl⟩ := List.mem_map.1 hp
    have := (hM.th t ht).out
    simp only
    omega
  · unfold runV
    rw [if_neg he]
    exact ⟨by simp, fun p hp => absurd hp (by simp), by simp⟩
theorem seen_bounds {v : RunV} {ls : List SX} (h : ls.map (fun s => (s.out, s.fin)) = v.seen) (hb : v.seen.length ≤ 4 ∧ (∀ p ∈ v.seen, p.1.length ≤ 1048576) ∧ v.evs.length ≤ 1048576) : ls.length ≤ 4 ∧ ∀ s ∈ ls, s.out.length ≤ 1048576 :=
  ⟨by have := hb.1; rw [← h, List.length_map] at this; exact this, fun s hs => hb.2.1 (s.out, s.fin) (by rw [← h]; exact List.mem_map.2 ⟨s, hs, rfl⟩)⟩

theorem run_tw {base vg gc : Nat} {sa : Option Addr} {scap : Nat} {l tl : List (Value × List OpD)} {cs : List (Int × Int)} {sc : List PickD} (ht : TwImg w base l cs (.slice (some ⟨vg, 0, none⟩) l.length (l.length + 2)) tl gc) (hw : ∀ p ∈ l, ∀ o ∈ p.2, wfOp o) (mem : Int) (hl : l.length ≤ 262144) (hcl : cs.length ≤ 262144)
    (hs : RdT encPk w 3 (.slice sa sc.length scap) sc) (hm : sc.length ≤ 262144) (hn : ∀ p ∈ sc, PickOk p) :
    Calls Tryz.prog 22 #[.agg #[.slice (some ⟨vg, 0, none⟩) l.length (l.length + 2), .int .i64 mem, .slice (some ⟨gc, 0, none⟩) cs.length (cs.length + 2)], .slice sa sc.length scap] w (RunP (runV mem (l.map (·.2)) cs (runE mem l cs sc) sc) w) := by
  obtain ⟨g, hv, hcode⟩ := ht.code.code hw
  obtain ⟨_, _, _, -, -, hsnd, -⟩ := ht.code
  have htl : tl.length = l.length := by simpa using congrArg List.length hsnd
  have h1 := run_p hcode (headCells (c := cs.length + 2) ht.cells (by omega)) mem (by omega) (by omega) hs (by omega) (fun p hp => ⟨(hn p hp).2.2.1, (hn p hp).1.1⟩)
  rw [htl, hsnd, runE_snd hsnd] at h1
  rw [htl] at hv
  rw [hv]
  exact h1
/-- two traces of one run, both memory of their own, one made behind the other -/
theorem two_traces {w0 wa : World} {v : RunV} {ao eo ao' eo' : Option Addr} {ac ec ac' ec' : Nat} {ls ls' : List SX} (ha : TraceOwn w w0.heap.size v ao ac ls eo ec) (hal : ∀ r ∈ traceK ao ac ls eo ec v.evs, ∀ g, r.v.ownBlock = some g → g < wa.heap.size) (hb : TraceOwn w wa.heap.size v ao' ac' ls' eo' ec') (h0 : w0.heap.size ≤ wa.heap.size) :
    (∀ r ∈ traceK ao ac ls eo ec v.evs ++ traceK ao' ac' ls' eo' ec' v.evs, w.ownsRow w0.heap.size (rowT r.k) (rowZ r.k) r.v r.n r.cs) ∧ (traceK ao ac ls eo ec v.evs ++ traceK ao' ac' ls' eo' ec' v.evs).Pairwise ApartK := by
  refine ⟨fun r hr => ?_, List.pairwise_append.2 ⟨ha.rows_pw, hb.rows_pw, fun r hr s hs g hg e => ?_⟩⟩
  · rcases List.mem_append.1 hr with hr | hr
    · exact ha.rows_own r hr
    · exact ownsRow_mono (hb.rows_own r hr) h0
  · have := hal r hr g hg
    have := (rowLt (hb.rows_own s hs) e).1
    omega

set_option maxRecDepth 100000 in
set_option maxHeartbeats 4000000 in
theorem runs_any {ca cca sa : Option Addr} {ccap ccca scap : Nat} {l : List (Value × List OpD)} {cs : List (Int × Int)} {sc : List PickD} {mem : Int} (h : CodeAt w (.slice ca l.length ccap) l) (hc : RdT encCell w 2 (.slice cca cs.length ccca) cs) (hs : RdT encPk w 3 (.slice sa sc.length scap) sc)
    (hl : l.length ≤ 9223372036854775807) (hcl : cs.length ≤ 9223372036854775807) (hol : ∀ p ∈ l, p.2.length ≤ 9223372036854775807) (hsl : sc.length ≤ 9223372036854775807) (hok : ∀ p ∈ sc, PickOk p) :
    Calls Tryz.prog 4 #[.agg #[.slice ca l.length ccap, .int .i64 mem, .slice cca cs.length ccca], .slice sa sc.length scap] w fun e w' => e = .returned (.bool true) ∧ Below w.heap.size w w' := by
  have H := hidI h
  have HC := hidI hc
  have HS := hidI hs
  have HL := hidI hl
  have HCL := hidI hcl
  have HOL := hidI hol
  have HSL := hidI hsl
  have HOK := hidI hok
  clear h hc hs hl hcl hol hsl hok
  go_enter Tryz.func4, Tryz.ntmps4
  go_wp2_with fail
  have hb0 : Below w.heap.size w (w.alloc (.cells #[.slice ca l.length ccap, .int .i64 mem, .slice cca cs.length ccca] 25)) := (Below.refl _ _).alloc (Nat.le_refl _) _
  have hbox := block_new w (.cells #[.slice ca l.length ccap, .int .i64 mem, .slice cca cs.length ccca] 25)
  have HB0 := hidI hb0
  have HX0 := hidI hbox
  clear hb0 hbox
  refine (imageSize3_any (cca := cca) (ccca := ccca) (cs := cs) (H.out.below HB0.out) mem HL.out HCL.out HOL.out).mono ?_
  rintro e w1 ⟨z, rfl, hz, hzl, hb⟩
  have HZ := hidI hz
  have HZL := hidI hzl
  have HB1 := hidI (bnext HB0.out hb)
  have HX1 := hidI (blk hb HX0.out)
  clear hz hzl hb HB0 HX0
  go_wp2_with fail
  have hbb : Below w1.heap.size w1 (w1.alloc (.cells #[.int .i64 z, .int .i64 (sc.length : Int)] 3)) := (Below.refl _ _).alloc (Nat.le_refl _) _
  refine (beyond2 (y := z) (z := (sc.length : Int)) (block_new w1 _) (by have := HZ.out; omega) (by have := HSL.out; omega)).mono ?_
  rintro e w2 ⟨r, rfl, hr, hb⟩
  have hb2 := bnext hbb hb
  have HB2 := hidI (bnext HB1.out hb2)
  have hx2 := blk hb2 HX1.out
  have HX2 := hidI hx2
  clear hb hbb hb2 HB1 HX1
  cases r with
  | true =>
    clear hx2
    go_wp2_with fail
    go_ret
    exact ⟨rfl, HB2.out⟩
  | false =>
    have hr' := hr rfl
    have HL2 := hidI (HZL.out hr'.1)
    have HSC : Hid (sc.length ≤ 262144) := hidI (by omega)
    have m0 : w2.cell? ⟨w.heap.size, 0, none⟩ = some (.slice ca l.length ccap) := cell_of_block hx2 rfl
    have m1 : w2.cell? ⟨w.heap.size, 1, none⟩ = some (.int .i64 mem) := cell_of_block hx2 rfl
    have m2 : w2.cell? ⟨w.heap.size, 2, none⟩ = some (.slice cca cs.length ccca) := cell_of_block hx2 rfl
    clear hr hr' hx2 HZ HZL
    go_wp2_with fail
    clear m0 m1 m2
    refine (twinImage_any (H.out.below HB2.out) (Rd.below HC.out HB2.out) HL2.out.2.1 HL2.out.2.2 HL2.out.1).mono ?_
    rintro e w3 ⟨v, tl, gc, rfl, ht, hb⟩
    obtain ⟨vg, va0, va1, hv, -⟩ := id ht.code
    rw [List.length_map] at hv
    subst hv
    have HT3 := hidI ht
    have HB3 := hidI (bnext HB2.out hb)
    have HX3 := hidI (blk hb HX2.out)
    clear ht hb HB2 HX2
    go_wp2_with fail
    have hb3 : Below w3.heap.size w3 (w3.alloc (.cells #[.slice (some ⟨vg, 0, none⟩) l.length (l.length + 2), .int .i64 mem, .slice (some ⟨gc, 0, none⟩) cs.length (cs.length + 2)] 25)) := (Below.refl _ _).alloc (Nat.le_refl _) _
    have HQ4 := hidI (block_new w3 (.cells #[.slice (some ⟨vg, 0, none⟩) l.length (l.length + 2), .int .i64 mem, .slice (some ⟨gc, 0, none⟩) cs.length (cs.length + 2)] 25))
    have HT4 := hidI (HT3.out.below hb3)
    have HB4 := hidI (bnext HB3.out hb3)
    have HX4 := hidI (blk hb3 HX3.out)
    clear hb3 HT3 HB3 HX3
    refine (twinPicks_any (Rd.below HS.out HB4.out) HSC.out).mono ?_
    rintro e w5 ⟨gp, hgp, rfl, hpb, hb⟩
    have HT5 := hidI (HT4.out.below hb)
    have HB5 := hidI (bnext HB4.out hb)
    have hx5 := blk hb HX4.out
    have hq5 := blk hb HQ4.out
    have HX5 := hidI hx5
    have HQ5 := hidI hq5
    have HP5 := hidI hpb
    have q0 : w5.cell? ⟨w3.heap.size, 0, none⟩ = some (.slice (some ⟨vg, 0, none⟩) l.length (l.length + 2)) := cell_of_block hq5 rfl
    have q1 : w5.cell? ⟨w3.heap.size, 1, none⟩ = some (.int .i64 mem) := cell_of_block hq5 rfl
    have q2 : w5.cell? ⟨w3.heap.size, 2, none⟩ = some (.slice (some ⟨gc, 0, none⟩) cs.length (cs.length + 2)) := cell_of_block hq5 rfl
    clear hb hgp hpb hx5 hq5 HT4 HB4 HX4 HQ4
    obtain ⟨V, hV⟩ : ∃ V, V = runV mem (l.map (·.2)) cs (runE mem l cs sc) sc := ⟨_, rfl⟩
    have hbnd := runV_bounds (mem := mem) (cs := cs) (sc := sc) H.out
    rw [← hV] at hbnd
    have HBND := hidI hbnd
    have HV := hidI hV
    clear hbnd hV
    go_wp2_with fail
    refine (run_tw HT5.out H.out.wf mem HL2.out.2.1 HL2.out.1 (headPicks (c := sc.length + 2) HP5.out (by omega)) HSC.out HOK.out).mono ?_
    rw [← HV.out]
    rintro e w6 ⟨ao, ac, ls, eo, ec, rfl, hto, hb⟩
    have hls := seen_bounds hto.same HBND.out
    have hbx : Below w6.heap.size w6 (w6.alloc (.cells #[.slice ao ls.length ac, .slice eo V.evs.length ec, .int .i64 V.steps] 60)) := (Below.refl _ _).alloc (Nat.le_refl _) _
    have hb7 := bnext hb hbx
    have HLA := hidI (show ∀ r ∈ traceK ao ac ls eo ec V.evs, ∀ g, r.v.ownBlock = some g → g < w6.heap.size from fun r hr g hg => (rowLt (hto.rows_own r hr) hg).2)
    have HA7 := hidI (hto.below hbx)
    have HLS := hidI hls
    have HT7 := hidI (HT5.out.below hb7)
    have HB57 := hidI hb7
    have HB7 := hidI (bnext HB5.out hb7)
    have HX7 := hidI (blk hb7 HX5.out)
    have hq7 := blk hb7 HQ5.out
    have HQ7 := hidI hq7
    have HP7 := hidI (blk hb7 HP5.out)
    have HTA7 := hidI (block_new w6 (.cells #[.slice ao ls.length ac, .slice eo V.evs.length ec, .int .i64 V.steps] 60))
    clear q0 q1 q2
    have q0 : (w6.alloc (.cells #[.slice ao ls.length ac, .slice eo V.evs.length ec, .int .i64 V.steps] 60)).cell? ⟨w3.heap.size, 0, none⟩ = some (.slice (some ⟨vg, 0, none⟩) l.length (l.length + 2)) := cell_of_block hq7 rfl
    have q1 : (w6.alloc (.cells #[.slice ao ls.length ac, .slice eo V.evs.length ec, .int .i64 V.steps] 60)).cell? ⟨w3.heap.size, 1, none⟩ = some (.int .i64 mem) := cell_of_block hq7 rfl
    have q2 : (w6.alloc (.cells #[.slice ao ls.length ac, .slice eo V.evs.length ec, .int .i64 V.steps] 60)).cell? ⟨w3.heap.size, 2, none⟩ = some (.slice (some ⟨gc, 0, none⟩) cs.length (cs.length + 2)) := cell_of_block hq7 rfl
    have HL7 := hidI (show w6.heap.size < (w6.alloc (.cells #[.slice ao ls.length ac, .slice eo V.evs.length ec, .int .i64 V.steps] 60)).heap.size from by simp)
    clear hto hb hls hbx hb7 hq7
    go_wp2_with fail
    generalize w6.alloc (.cells #[.slice ao ls.length ac, .slice eo V.evs.length ec, .int .i64 V.steps] 60) = w7 at HA7 HT7 HB57 HB7 HX7 HQ7 HP7 HTA7 HL7 ⊢
    clear q0 q1 q2
    refine (run_tw HT7.out H.out.wf mem HL2.out.2.1 HL2.out.1 (headPicks (c := sc.length + 2) HP7.out (by omega)) HSC.out HOK.out).mono ?_
    rw [← HV.out]
    rintro e w8 ⟨bo, bc, ls2, fo, fc, rfl, hto, hb⟩
    have hls := seen_bounds hto.same HBND.out
    have hbx : Below w8.heap.size w8 (w8.alloc (.cells #[.slice bo ls2.length bc, .slice fo V.evs.length fc, .int .i64 V.steps] 60)) := (Below.refl _ _).alloc (Nat.le_refl _) _
    have hb9 := bnext hb hbx
    have HLB := hidI (show ∀ r ∈ traceK bo bc ls2 fo fc V.evs, ∀ g, r.v.ownBlock = some g → g < w8.heap.size from fun r hr g hg => (rowLt (hto.rows_own r hr) hg).2)
    have HB9' := hidI (hto.below hbx)
    have HA9 := hidI (HA7.out.below hb9)
    have HLS2 := hidI hls
    have HT9 := hidI (HT7.out.below hb9)
    have HB59 := hidI (bnext HB57.out hb9)
    have HB79 := hidI hb9
    have HB9 := hidI (bnext HB7.out hb9)
    have hx9 := blk hb9 HX7.out
    have HX9 := hidI hx9
    have HQ9 := hidI (blk hb9 HQ7.out)
    have HP9 := hidI (blk hb9 HP7.out)
    have HTA9 := hidI (blk hb9 HTA7.out)
    have HTB9 := hidI (block_new w8 (.cells #[.slice bo ls2.length bc, .slice fo V.evs.length fc, .int .i64 V.steps] 60))
    have m0 : (w8.alloc (.cells #[.slice bo ls2.length bc, .slice fo V.evs.length fc, .int .i64 V.steps] 60)).cell? ⟨w.heap.size, 0, none⟩ = some (.slice ca l.length ccap) := cell_of_block hx9 rfl
    have m1 : (w8.alloc (.cells #[.slice bo ls2.length bc, .slice fo V.evs.length fc, .int .i64 V.steps] 60)).cell? ⟨w.heap.size, 1, none⟩ = some (.int .i64 mem) := cell_of_block hx9 rfl
    have m2 : (w8.alloc (.cells #[.slice bo ls2.length bc, .slice fo V.evs.length fc, .int .i64 V.steps] 60)).cell? ⟨w.heap.size, 2, none⟩ = some (.slice cca cs.length ccca) := cell_of_block hx9 rfl
    have HL9 := hidI (show w7.heap.size ≤ w8.heap.size from hb.size)
    clear hto hb hls hbx hb9 hx9 HA7 HT7 HB7 HX7 HQ7 HP7 HTA7
    go_wp2_with fail
    generalize w8.alloc (.cells #[.slice bo ls2.length bc, .slice fo V.evs.length fc, .int .i64 V.steps] 60) = w9 at HB9' HA9 HT9 HB59 HB79 HB9 HX9 HQ9 HP9 HTA9 HTB9 ⊢
    clear m0 m1 m2
    refine (run_r (H.out.below HB9.out) (Rd.below HC.out HB9.out) mem (by have := HL2.out; omega) (by have := HL2.out; omega) (fun p hp => by have := HL2.out.2.2 p hp; omega) (Rd.below HS.out HB9.out) (by have := HSC.out; omega) (fun p hp => ⟨(HOK.out p hp).1.1, (HOK.out p hp).2.2⟩)).mono ?_
    rw [← HV.out]
    rintro e w10 ⟨co, cc, ls3, go, gcap, rfl, htr, hb⟩
    have hbx : Below w10.heap.size w10 (w10.alloc (.cells #[.slice co ls3.length cc, .slice go V.evs.length gcap, .int .i64 V.steps] 60)) := (Below.refl _ _).alloc (Nat.le_refl _) _
    have hb11 := bnext hb hbx
    have HR11 := hidI (htr.below hbx)
    have HA11 := hidI (HA9.out.below hb11)
    have HB11' := hidI (HB9'.out.below hb11)
    have HT11 := hidI (HT9.out.below hb11)
    have HB511 := hidI (bnext HB59.out hb11)
    have HB11 := hidI (bnext HB9.out hb11)
    have HX11 := hidI (blk hb11 HX9.out)
    have HQ11 := hidI (blk hb11 HQ9.out)
    have HP11 := hidI (blk hb11 HP9.out)
    have hta := blk hb11 HTA9.out
    have htb := blk hb11 HTB9.out
    have htc := block_new w10 (.cells #[.slice co ls3.length cc, .slice go V.evs.length gcap, .int .i64 V.steps] 60)
    have HTA11 := hidI hta
    have HTB11 := hidI htb
    have HTC11 := hidI htc
    clear htr hb hbx hb11 HA9 HB9' HT9 HB9 HX9 HQ9 HP9 HTA9 HTB9
    have a0 : (w10.alloc (.cells #[.slice co ls3.length cc, .slice go V.evs.length gcap, .int .i64 V.steps] 60)).cell? ⟨w6.heap.size, 0, none⟩ = some (.slice ao ls.length ac) := cell_of_block hta rfl
    have a1 : (w10.alloc (.cells #[.slice co ls3.length cc, .slice go V.evs.length gcap, .int .i64 V.steps] 60)).cell? ⟨w6.heap.size, 1, none⟩ = some (.slice eo V.evs.length ec) := cell_of_block hta rfl
    have a2 : (w10.alloc (.cells #[.slice co ls3.length cc, .slice go V.evs.length gcap, .int .i64 V.steps] 60)).cell? ⟨w6.heap.size, 2, none⟩ = some (.int .i64 V.steps) := cell_of_block hta rfl
    have c0 : (w10.alloc (.cells #[.slice co ls3.length cc, .slice go V.evs.length gcap, .int .i64 V.steps] 60)).cell? ⟨w10.heap.size, 0, none⟩ = some (.slice co ls3.length cc) := cell_of_block htc rfl
    have c1 : (w10.alloc (.cells #[.slice co ls3.length cc, .slice go V.evs.length gcap, .int .i64 V.steps] 60)).cell? ⟨w10.heap.size, 1, none⟩ = some (.slice go V.evs.length gcap) := cell_of_block htc rfl
    have c2 : (w10.alloc (.cells #[.slice co ls3.length cc, .slice go V.evs.length gcap, .int .i64 V.steps] 60)).cell? ⟨w10.heap.size, 2, none⟩ = some (.int .i64 V.steps) := cell_of_block htc rfl
    have hzc : (V.code != V.code) = false := by simp
    have HEV := hidI HBND.out.2.2
    clear hta htb htc
    go_wp2_with fail
    generalize w10.alloc (.cells #[.slice co ls3.length cc, .slice go V.evs.length gcap, .int .i64 V.steps] 60) = w11 at HR11 HA11 HB11' HT11 HB511 HB11 HX11 HQ11 HP11 HTA11 HTB11 HTC11 ⊢
    clear a0 a1 a2 c0 c1 c2
    refine (sameTrace_true (ps := ls) (qs := ls3) (es := V.evs) (st := V.steps) HA11.out.rd.seen HR11.out.seen rfl rfl (HA11.out.same.trans HR11.out.same.symm) (by have := HLS.out.1; omega) (fun s hs => by have := HLS.out.2 s hs; omega) HA11.out.rd.evs HR11.out.evs rfl rfl (by have := HEV.out; omega)).mono ?_
    rintro e w12 ⟨rfl, hb⟩
    have htb := blk hb HTB11.out
    have htc := blk hb HTC11.out
    have b0 : w12.cell? ⟨w8.heap.size, 0, none⟩ = some (.slice bo ls2.length bc) := cell_of_block htb rfl
    have b1 : w12.cell? ⟨w8.heap.size, 1, none⟩ = some (.slice fo V.evs.length fc) := cell_of_block htb rfl
    have b2 : w12.cell? ⟨w8.heap.size, 2, none⟩ = some (.int .i64 V.steps) := cell_of_block htb rfl
    have c0 : w12.cell? ⟨w10.heap.size, 0, none⟩ = some (.slice co ls3.length cc) := cell_of_block htc rfl
    have c1 : w12.cell? ⟨w10.heap.size, 1, none⟩ = some (.slice go V.evs.length gcap) := cell_of_block htc rfl
    have c2 : w12.cell? ⟨w10.heap.size, 2, none⟩ = some (.int .i64 V.steps) := cell_of_block htc rfl
    have HB12' := hidI (HB11'.out.below hb)
    have HR12 := hidI (HR11.out.below hb)
    have HB1112 := hidI hb
    clear htb htc hb
    go_wp2_with fail
    clear b0 b1 b2 c0 c1 c2
    refine (sameTrace_true (ps := ls2) (qs := ls3) (es := V.evs) (st := V.steps) HB12'.out.rd.seen HR12.out.seen rfl rfl (HB12'.out.same.trans HR12.out.same.symm) (by have := HLS2.out.1; omega) (fun s hs => by have := HLS2.out.2 s hs; omega) HB12'.out.rd.evs HR12.out.evs rfl rfl (by have := HEV.out; omega)).mono ?_
    rintro e w13 ⟨rfl, hb⟩
    have HB1113 := hidI (bnext HB1112.out hb)
    have HB513 := hidI (bnext HB511.out HB1113.out)
    have hr13 := two_traces (w0 := w5) (wa := w7) (HA11.out.below HB1113.out) (fun r hr g hg => by have := HLA.out r hr g hg; have := HL7.out; omega) (HB11'.out.below HB1113.out) HB57.out.size
    have htb := blk HB1113.out HTB11.out
    have hst : BkT w5 (w13.alloc (.cells zeroBook 92)) w13.heap.size 0 (traceK ao ac ls eo ec V.evs ++ (traceK bo bc ls2 fo fc V.evs ++ [])) [(w8.heap.size, .cells #[.slice bo ls2.length bc, .slice fo V.evs.length fc, .int .i64 V.steps] 60 (0, 0))] := by
      rw [List.append_nil]
      refine BkT.start HB513.out hr13.1 hr13.2 (fun p hp => ?_)
      rw [List.mem_singleton.1 hp]
      refine ⟨htb, fun r hr e => ?_⟩
      have z1 := HL7.out
      have z2 := HL9.out
      simp only at e
      rcases List.mem_append.1 hr with hr | hr
      · have := HLA.out r hr _ e; omega
      · have := HLB.out r hr _ e; omega
    have hta := block_alloc (o := (.cells zeroBook 92)) (blk HB1113.out HTA11.out)
    have a0 : (w13.alloc (.cells zeroBook 92)).cell? ⟨w6.heap.size, 0, none⟩ = some (.slice ao ls.length ac) := cell_of_block hta rfl
    have a1 : (w13.alloc (.cells zeroBook 92)).cell? ⟨w6.heap.size, 1, none⟩ = some (.slice eo V.evs.length ec) := cell_of_block hta rfl
    have a2 : (w13.alloc (.cells zeroBook 92)).cell? ⟨w6.heap.size, 2, none⟩ = some (.int .i64 V.steps) := cell_of_block hta rfl
    have HST := hidI hst
    have hy1 := zero_book
    have hy2 := zbook_size
    clear hb hr13 htb hst hta hzc
    go_wp2_with fail
    clear hy1 hy2 a0 a1 a2
    refine (BkT.trace (rows := traceK bo bc ls2 fo fc V.evs ++ []) HST.out (by omega) HLS.out.1 (fun s hs => by have := HLS.out.2 s hs; omega) (by have := HEV.out; omega)).mono ?_
    rintro e w14 ⟨rfl, hs⟩
    have htb := (hs.wat _ (List.mem_singleton.2 rfl)).1
    have b0 : w14.cell? ⟨w8.heap.size, 0, none⟩ = some (.slice bo ls2.length bc) := cell_of_block htb rfl
    have b1 : w14.cell? ⟨w8.heap.size, 1, none⟩ = some (.slice fo V.evs.length fc) := cell_of_block htb rfl
    have b2 : w14.cell? ⟨w8.heap.size, 2, none⟩ = some (.int .i64 V.steps) := cell_of_block htb rfl
    have HS1 := hidI hs
    clear hs htb HST
    go_wp2_with fail
    clear b0 b1 b2
    refine (BkT.trace (rows := []) HS1.out (by have := HLS.out.1; omega) HLS2.out.1 (fun s hs => by have := HLS2.out.2 s hs; omega) (by have := HEV.out; omega)).mono ?_
    rintro e w15 ⟨rfl, hs⟩
    have HS2 := hidI hs
    clear hs HS1
    go_wp2_with fail
    refine HS2.out.done.mono ?_
    rintro e w16 ⟨rfl, hb⟩
    have hm := blk hb HX5.out
    have hq := blk hb HQ5.out
    have m0 : w16.cell? ⟨w.heap.size, 0, none⟩ = some (.slice ca l.length ccap) := cell_of_block hm rfl
    have m1 : w16.cell? ⟨w.heap.size, 1, none⟩ = some (.int .i64 mem) := cell_of_block hm rfl
    have m2 : w16.cell? ⟨w.heap.size, 2, none⟩ = some (.slice cca cs.length ccca) := cell_of_block hm rfl
    have q0 : w16.cell? ⟨w3.heap.size, 0, none⟩ = some (.slice (some ⟨vg, 0, none⟩) l.length (l.length + 2)) := cell_of_block hq rfl
    have q1 : w16.cell? ⟨w3.heap.size, 1, none⟩ = some (.int .i64 mem) := cell_of_block hq rfl
    have q2 : w16.cell? ⟨w3.heap.size, 2, none⟩ = some (.slice (some ⟨gc, 0, none⟩) cs.length (cs.length + 2)) := cell_of_block hq rfl
    have HB516 := hidI hb
    have HB16 := hidI (HB5.out.trans (hb.mono HB5.out.size))
    clear hm hq hb
    go_wp2_with fail
    clear m0 m1 m2 q0 q1 q2
    refine (leftImage_true (HT5.out.below HB516.out) (H.out.below HB16.out) (Rd.below HC.out HB16.out) HL2.out.2.1 HL2.out.2.2 HL2.out.1).mono ?_
    rintro e w17 ⟨rfl, hb⟩
    have HB17 := hidI (bnext HB16.out hb)
    have HP17 := hidI (blk hb (blk HB516.out HP5.out))
    clear hb
    go_wp2_with fail
    refine (leftPicks_true HP17.out (Rd.below HS.out HB17.out) HSC.out).mono ?_
    rintro e w18 ⟨rfl, hb⟩
    have HB18 := hidI (bnext HB17.out hb)
    clear hb
    go_wp2_with fail
    refine (lives21 _).mono ?_
    rintro e w19 ⟨rfl, hb⟩
    have HB19 := hidI (bnext HB18.out hb)
    clear hb
    go_wp2_with fail
    go_ret
    exact ⟨rfl, HB19.out⟩
end

end Go.Proofs.YthmmbldhbdnfpaaGreatDoor

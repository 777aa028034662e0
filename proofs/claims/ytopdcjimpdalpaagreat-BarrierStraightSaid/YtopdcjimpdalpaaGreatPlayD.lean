/- Package play: what Run's closures do. -/
import Derived.Test.YtopdcjimpdalpaaGreatPlayA
import Derived.Test.YtopdcjimpdalpaaGreatMTsoW
import Derived.Test.YtopdcjimpdalpaaGreatTsoU2
namespace Go.Proofs.YtopdcjimpdalpaaGreat
open Go.RowKit
set_option linter.unusedVariables false
set_option linter.unusedSimpArgs false

variable {w w' : World} {base b : Nat} {mm : MM} {N : Nat} {P : List Nat}

/-- one thing done to a machine: a step of a thread, or a flush -/
inductive Act1 where
  | step (th : Int)
  | flush (th : Int)
/-- a machine, and how many steps were made -/
def doAct (s : MM × Int) : Act1 → MM × Int
  | .step th => ((s.1.step th).2, if (s.1.step th).1 = true then s.2 + 1 else s.2)
  | .flush th => ((s.1.flush th).2, s.2)
def doActs (s : MM × Int) (l : List Act1) : MM × Int := l.foldl doAct s
theorem doActs_app (s : MM × Int) (l r : List Act1) : doActs s (l ++ r) = doActs (doActs s l) r := by simp [doActs]
/-- what one pick asks for, once -/
def onceS (p : PickD) : List Act1 := if p.kind = 1 then [.flush p.th] else if p.kind = 2 then [.step p.th, .flush p.th] else [.step p.th]
def timesS (p : PickD) : Nat → List Act1
  | 0 => []
  | k + 1 => timesS p k ++ onceS p
def pickS (p : PickD) : List Act1 := timesS p p.n.toNat
def actsS (l : List PickD) : List Act1 := l.flatMap pickS
theorem actsS_snoc (l : List PickD) (p : PickD) : actsS (l ++ [p]) = actsS l ++ pickS p := by simp [actsS]

/-- a machine that lives beside blocks that are none of its own -/
def MOff (w : World) (base b : Nat) (mm : MM) (N : Nat) (P : List Nat) : Prop :=
  ∃ own xs mv tv ev, MAt w base b own mm xs mv tv ev ∧ (∀ k, own k ≠ 0 → base ≤ k) ∧ MOk N mm ∧ ∀ k ∈ P, own k = 0 ∧ k < w.heap.size
/-- those blocks stay -/
def Stay (P : List Nat) (w w' : World) : Prop := ∀ k ∈ P, w'.heap[k]? = w.heap[k]?
theorem Stay.refl (P : List Nat) (w : World) : Stay P w w := fun _ _ => rfl
theorem Stay.trans {w'' : World} (h : Stay P w w') (g : Stay P w' w'') : Stay P w w'' := fun k hk => (g k hk).trans (h k hk)
theorem MOff.live (h : MOff w base b mm N P) : MLive w base b mm N := by
  obtain ⟨own, xs, mv, tv, ev, hm, hl, hk, -⟩ := h
  exact ⟨own, xs, mv, tv, ev, hm, hl, hk⟩
theorem MOff.of_live (h : MLive w base b mm N) : MOff w base b mm N [] := by
  obtain ⟨own, xs, mv, tv, ev, hm, hl, hk⟩ := h
  exact ⟨own, xs, mv, tv, ev, hm, hl, hk, fun k hk => absurd hk (by simp)⟩
theorem MOff.base_le (h : MOff w base b mm N P) : base ≤ w.heap.size := by
  obtain ⟨own, xs, mv, tv, ev, hm, -⟩ := h
  exact hm.base_le
theorem MOff.below (h : MOff w base b mm N P) (hb : Below w.heap.size w w') : MOff w' base b mm N P := by
  obtain ⟨own, xs, mv, tv, ev, hm, hl, hk, hp⟩ := h
  exact ⟨own, xs, mv, tv, ev, hm.below hb, hl, hk, fun k hk => ⟨(hp k hk).1, by have := (hp k hk).2; have := hb.size; omega⟩⟩
theorem MOff.alloc (h : MOff w base b mm N P) (o : Obj) : MOff (w.alloc o) base b mm N (w.heap.size :: P) := by
  obtain ⟨own, xs, mv, tv, ev, hm, hl, hk, hp⟩ := h
  refine ⟨own, xs, mv, tv, ev, hm.below ((Below.refl _ _).alloc (Nat.le_refl _) _), hl, hk, fun k hk => ?_⟩
  rcases List.mem_cons.1 hk with rfl | hk
  · exact ⟨hm.fresh _ (Nat.le_refl _), by simp⟩
  · exact ⟨(hp k hk).1, by have := (hp k hk).2; simp; omega⟩
theorem MOff.poke (h : MOff w base b mm N P) {q : Nat} (hq : q ∈ P) (o : Nat) (u : Value) : MOff (w.setCell ⟨q, o, none⟩ u) base b mm N P := by
  obtain ⟨own, xs, mv, tv, ev, hm, hl, hk, hp⟩ := h
  exact ⟨own, xs, mv, tv, ev, hm.keep (by simp [World.setCell]) (fun g hg _ => Below.heap_setCell _ _ _ _ (fun e => hg (by rw [e]; exact (hp q hq).1))), hl, hk, fun k hk => ⟨(hp k hk).1, by simpa [World.setCell] using (hp k hk).2⟩⟩
theorem MOff.sub {P' : List Nat} (h : MOff w base b mm N P) (hs : ∀ k ∈ P', k ∈ P) : MOff w base b mm N P' := by
  obtain ⟨own, xs, mv, tv, ev, hm, hl, hk, hp⟩ := h
  exact ⟨own, xs, mv, tv, ev, hm, hl, hk, fun k hk => hp k (hs k hk)⟩
theorem MOff.addOld (h : MOff w base b mm N P) {q : Nat} (hq : q < base) : MOff w base b mm N (q :: P) := by
  have hb := h.base_le
  obtain ⟨own, xs, mv, tv, ev, hm, hl, hk, hp⟩ := h
  refine ⟨own, xs, mv, tv, ev, hm, hl, hk, fun k hk => ?_⟩
  rcases List.mem_cons.1 hk with rfl | hk
  · exact ⟨Classical.byContradiction fun hc => by have := hl _ hc; omega, by omega⟩
  · exact hp k hk
theorem MOff.goes {own : Nat → Nat} {xs : List TX} {mv tv ev : Value} {N' : Nat} {mm' : MM} (hm : MAt w base b own mm xs mv tv ev) (hl : ∀ k, own k ≠ 0 → base ≤ k) (hp : ∀ k ∈ P, own k = 0 ∧ k < w.heap.size) (hg : MGoes w base b own mm' w') (hk : MOk N' mm') : MOff w' base b mm' N' P ∧ Stay P w w' ∧ Below base w w' := by
  obtain ⟨⟨own', xs', mv', tv', ev', h', ho⟩, hc⟩ := hg
  refine ⟨⟨own', xs', mv', tv', ev', h', fun k hn => ?_, hk, fun k hk' => ⟨by rw [ho _ (hp k hk').2]; exact (hp k hk').1, by have := hc.size; have := (hp k hk').2; omega⟩⟩, fun k hk' => hc.block k (hp k hk').2 (fun e => e.1 (hp k hk').1), hc.to_below hm.base_le (fun k e => hl k e.1)⟩
  by_cases e : k < w.heap.size
  · exact hl k (by rw [← ho k e]; exact hn)
  · have := hm.base_le; omega
theorem step_p (h : MOff w base b mm N P) (hN : N < 1000000000) (z : Int) :
    Calls Tryz.prog 63 #[.pointer (some ⟨b, 0, none⟩), .int .i64 z] w fun r w' => r = .returned (.bool (mm.step z).1) ∧ MOff w' base b (mm.step z).2 (N + 1) P ∧ Stay P w w' ∧ Below base w w' := by
  obtain ⟨own, xs, mv, tv, ev, hm, hl, hk, hp⟩ := h
  refine (step_any hm hk hN z).mono ?_
  rintro r w' ⟨rfl, hg⟩
  exact ⟨rfl, MOff.goes hm hl hp hg (hk.step z)⟩
theorem flush_p (h : MOff w base b mm N P) (z : Int) :
    Calls Tryz.prog 66 #[.pointer (some ⟨b, 0, none⟩), .int .i64 z] w fun r w' => r = .returned (.bool (mm.flush z).1) ∧ MOff w' base b (mm.flush z).2 N P ∧ Stay P w w' ∧ Below base w w' := by
  obtain ⟨own, xs, mv, tv, ev, hm, hl, hk, hp⟩ := h
  refine (flush_any hm hk z).mono ?_
  rintro r w' ⟨rfl, hg⟩
  exact ⟨rfl, MOff.goes hm hl hp hg (hk.flush z)⟩

theorem events_p (h : MOff w base b mm N P) (hN : N ≤ 1000000000) :
    Calls Tryz.prog 69 #[.pointer (some ⟨b, 0, none⟩)] w (CloneRow 127 4 encEv mm.evs w) := by
  obtain ⟨own, xs, mv, tv, ev, hm, hl, hk, hp⟩ := h
  exact events_any hm (Nat.le_trans hk.evs hN)
theorem cell_other3 {w : World} {a q o : Nat} {v : Value} (h : w.cell? ⟨a, o, none⟩ = some v) (hne : a ≠ q) (u0 u1 u2 : Value) : (((w.setCell ⟨q, 0, none⟩ u0).setCell ⟨q, 1, none⟩ u1).setCell ⟨q, 2, none⟩ u2).cell? ⟨a, o, none⟩ = some v := by
  rw [World.cell?_of_block (w := w) (((Below.heap_setCell _ _ _ _ hne).trans (Below.heap_setCell _ _ _ _ hne)).trans (Below.heap_setCell _ _ _ _ hne))]; exact h
/-- Run at work: the machine, and the variables that its closures hold -/
structure RunAt (w : World) (base b bx bs bt : Nat) (mm : MM) (steps : Int) (N : Nat) (P : List Nat) : Prop where
  mach : MOff w base b mm N P
  x : w.heap[bx]? = some (.cells #[.pointer (some ⟨b, 0, none⟩)] 144 (0, 0))
  s : w.heap[bs]? = some (.cells #[.int .i64 steps] 3 (0, 0))
  t : w.heap[bt]? = some (.cells #[.func (.func 62) #[] #[.pointer (some ⟨bx, 0, none⟩), .pointer (some ⟨bs, 0, none⟩)]] 147 (0, 0))
  px : bx ∈ P
  ps : bs ∈ P
  pt : bt ∈ P
  nx : bx ≠ bs
  nt : bt ≠ bs
  lo : base ≤ bs
variable {bx bs bt : Nat} {steps : Int}
theorem RunAt.below (h : RunAt w base b bx bs bt mm steps N P) (hb : Below w.heap.size w w') : RunAt w' base b bx bs bt mm steps N P :=
  ⟨h.mach.below hb, blk hb h.x, blk hb h.s, blk hb h.t, h.px, h.ps, h.pt, h.nx, h.nt, h.lo⟩
theorem RunAt.goes {mm' : MM} {N' : Nat} (h : RunAt w base b bx bs bt mm steps N P) (hm : MOff w' base b mm' N' P) (hs : Stay P w w') : RunAt w' base b bx bs bt mm' steps N' P :=
  ⟨hm, (hs _ h.px).trans h.x, (hs _ h.ps).trans h.s, (hs _ h.pt).trans h.t, h.px, h.ps, h.pt, h.nx, h.nt, h.lo⟩
theorem RunAt.count (h : RunAt w base b bx bs bt mm steps N P) (k : Int) : RunAt (w.setCell ⟨bs, 0, none⟩ (.int .i64 k)) base b bx bs bt mm k N P :=
  ⟨h.mach.poke h.ps _ _, block_other h.x h.nx, block_setCell _ h.s, block_other h.t h.nt, h.px, h.ps, h.pt, h.nx, h.nt, h.lo⟩
theorem RunAt.addBox (h : RunAt w base b bx bs bt mm steps N P) (o : Obj) : RunAt (w.alloc o) base b bx bs bt mm steps N (w.heap.size :: P) :=
  ⟨h.mach.alloc o, block_alloc h.x, block_alloc h.s, block_alloc h.t, List.mem_cons_of_mem _ h.px, List.mem_cons_of_mem _ h.ps, List.mem_cons_of_mem _ h.pt, h.nx, h.nt, h.lo⟩
theorem RunAt.more (h : RunAt w base b bx bs bt mm steps N P) : RunAt w base b bx bs bt mm steps (N + 1) P := by
  obtain ⟨⟨own, xs, mv, tv, ev, hm, hl, hk, hp⟩, h2, h3, h4, h5, h6, h7, h8, h9, h10⟩ := h
  exact ⟨⟨own, xs, mv, tv, ev, hm, hl, hk.mono (by omega), hp⟩, h2, h3, h4, h5, h6, h7, h8, h9, h10⟩
theorem RunAt.less {P' : List Nat} (h : RunAt w base b bx bs bt mm steps N P) (hs : ∀ k ∈ P', k ∈ P) (h1 : bx ∈ P') (h2 : bs ∈ P') (h3 : bt ∈ P') : RunAt w base b bx bs bt mm steps N P' :=
  ⟨h.mach.sub hs, h.x, h.s, h.t, h1, h2, h3, h.nx, h.nt, h.lo⟩
/-- what a closure leaves -/
def RunPost (base b bx bs bt : Nat) (s : MM × Int) (N : Nat) (P : List Nat) (w : World) (r : Ending) (w' : World) : Prop :=
  r = .returned (.tuple #[]) ∧ RunAt w' base b bx bs bt s.1 s.2 N P ∧ (∀ k ∈ P, k ≠ bs → w'.heap[k]? = w.heap[k]?) ∧ Below base w w'

set_option maxHeartbeats 1000000 in
theorem run1 (h : RunAt w base b bx bs bt mm steps N P) (hN : N < 1000000000) (hs : 0 ≤ steps ∧ steps ≤ 1000000000) (z : Int) :
    Calls Tryz.prog 62 #[.int .i64 z, .pointer (some ⟨bx, 0, none⟩), .pointer (some ⟨bs, 0, none⟩)] w (RunPost base b bx bs bt (doAct (mm, steps) (.step z)) (N + 1) P w) := by
  have cx : w.cell? ⟨bx, 0, none⟩ = some (.pointer (some ⟨b, 0, none⟩)) := cell_of_block h.x rfl
  have H := hidI h
  clear h
  go_enter Tryz.func62, Tryz.ntmps62
  go_wp2_with fail
  refine (step_p H.out.mach hN z).mono ?_
  rintro r w1 ⟨rfl, hm, hst, hb⟩
  have h1 := H.out.goes hm hst
  have c1 : w1.cell? ⟨bs, 0, none⟩ = some (.int .i64 steps) := cell_of_block h1.s rfl
  have f1 := free_of_block (o := 0) h1.s
  have H1 := hidI h1
  have HS := hidI hst
  have HB := hidI hb
  clear hm hst hb h1
  cases hq : (mm.step z).1 with
  | true =>
    go_wp2_with fail
    go_end0
    have he : doAct (mm, steps) (.step z) = ((mm.step z).2, steps + 1) := by simp [doAct, hq]
    rw [he]
    exact ⟨rfl, H1.out.count _, fun k hk hne => (Below.heap_setCell _ _ _ _ hne).trans (HS.out k hk), HB.out.setCell H.out.lo _⟩
  | false =>
    go_wp2_with fail
    go_end0
    have he : doAct (mm, steps) (.step z) = ((mm.step z).2, steps) := by simp [doAct, hq]
    rw [he]
    exact ⟨rfl, H1.out, fun k hk _ => HS.out k hk, HB.out⟩

theorem once_steps (s : MM × Int) (p : PickD) : s.2 ≤ (doActs s (onceS p)).2 ∧ (doActs s (onceS p)).2 ≤ s.2 + 1 := by
  have h : ∀ z, s.2 ≤ (doAct s (.step z)).2 ∧ (doAct s (.step z)).2 ≤ s.2 + 1 := fun z => by
    simp only [doAct]
    split <;> omega
  unfold onceS
  split
  · simp only [doActs, List.foldl, doAct]; omega
  · split
    · exact h p.th
    · exact h p.th
variable {bp : Nat} {p : PickD}

set_option maxHeartbeats 1000000 in
theorem run2 (h : RunAt w base b bx bs bt mm steps N P) (hp : w.heap[bp]? = some (.cells (encPk p).toArray 42 (0, 0))) (hN : N < 1000000000) (hs : 0 ≤ steps ∧ steps ≤ 1000000000) (hk : p.kind ≠ 1 ∧ p.kind ≠ 2) :
    Calls Tryz.prog 64 #[.pointer (some ⟨bt, 0, none⟩), .pointer (some ⟨bp, 0, none⟩)] w (RunPost base b bx bs bt (doActs (mm, steps) (onceS p)) (N + 1) P w) := by
  have ct : w.cell? ⟨bt, 0, none⟩ = some (.func (.func 62) #[] #[.pointer (some ⟨bx, 0, none⟩), .pointer (some ⟨bs, 0, none⟩)]) := cell_of_block h.t rfl
  have c1 : w.cell? ⟨bp, 1, none⟩ = some (.int .i64 p.th) := cell_of_block hp rfl
  have H := hidI h
  have he : doActs (mm, steps) (onceS p) = doAct (mm, steps) (.step p.th) := by simp [onceS, hk.1, hk.2, doActs]
  rw [he]
  clear h hp he
  go_enter Tryz.func64, Tryz.ntmps64
  go_wp2_with fail
  refine (run1 H.out hN hs p.th).mono ?_
  rintro r w1 ⟨rfl, hr⟩
  have HR := hidI hr
  clear hr
  go_wp2_with fail
  go_end0
  exact ⟨rfl, HR.out⟩
set_option maxHeartbeats 1000000 in
theorem run3 (h : RunAt w base b bx bs bt mm steps N P) (hp : w.heap[bp]? = some (.cells (encPk p).toArray 42 (0, 0))) (hk : p.kind = 1) :
    Calls Tryz.prog 65 #[.pointer (some ⟨bx, 0, none⟩), .pointer (some ⟨bp, 0, none⟩)] w (RunPost base b bx bs bt (doActs (mm, steps) (onceS p)) N P w) := by
  have cx : w.cell? ⟨bx, 0, none⟩ = some (.pointer (some ⟨b, 0, none⟩)) := cell_of_block h.x rfl
  have c1 : w.cell? ⟨bp, 1, none⟩ = some (.int .i64 p.th) := cell_of_block hp rfl
  have H := hidI h
  have he : doActs (mm, steps) (onceS p) = ((mm.flush p.th).2, steps) := by simp [onceS, hk, doActs, doAct]
  rw [he]
  clear h hp he
  go_enter Tryz.func65, Tryz.ntmps65
  go_wp2_with fail
  refine (flush_p H.out.mach p.th).mono ?_
  rintro r w1 ⟨rfl, hm, hst, hb⟩
  have H1 := hidI (H.out.goes hm hst)
  have HS := hidI hst
  have HB := hidI hb
  clear hm hst hb
  go_wp2_with fail
  go_end0
  exact ⟨rfl, H1.out, fun k hk _ => HS.out k hk, HB.out⟩
set_option maxHeartbeats 1000000 in
theorem run4 (h : RunAt w base b bx bs bt mm steps N P) (hp : w.heap[bp]? = some (.cells (encPk p).toArray 42 (0, 0))) (hpP : bp ∈ P) (hps : bp ≠ bs) (hN : N < 1000000000) (hs : 0 ≤ steps ∧ steps ≤ 1000000000) (hk : p.kind = 2) :
    Calls Tryz.prog 67 #[.pointer (some ⟨bt, 0, none⟩), .pointer (some ⟨bp, 0, none⟩), .pointer (some ⟨bx, 0, none⟩)] w (RunPost base b bx bs bt (doActs (mm, steps) (onceS p)) (N + 1) P w) := by
  have ct : w.cell? ⟨bt, 0, none⟩ = some (.func (.func 62) #[] #[.pointer (some ⟨bx, 0, none⟩), .pointer (some ⟨bs, 0, none⟩)]) := cell_of_block h.t rfl
  have c1 : w.cell? ⟨bp, 1, none⟩ = some (.int .i64 p.th) := cell_of_block hp rfl
  have H := hidI h
  have HP := hidI hp
  have he : doActs (mm, steps) (onceS p) = (((doAct (mm, steps) (.step p.th)).1.flush p.th).2, (doAct (mm, steps) (.step p.th)).2) := by simp [onceS, hk, doActs, doAct]
  rw [he]
  clear h hp he
  go_enter Tryz.func67, Tryz.ntmps67
  go_wp2_with fail
  refine (run1 H.out hN hs p.th).mono ?_
  rintro r w1 ⟨rfl, h1, hst, hb⟩
  have hp1 := (hst bp hpP hps).trans HP.out
  have c1' : w1.cell? ⟨bp, 1, none⟩ = some (.int .i64 p.th) := cell_of_block hp1 rfl
  have cx : w1.cell? ⟨bx, 0, none⟩ = some (.pointer (some ⟨b, 0, none⟩)) := cell_of_block h1.x rfl
  have H1 := hidI h1
  have HS := hidI hst
  have HB := hidI hb
  clear h1 hst hb hp1
  go_wp2_with fail
  refine (flush_p H1.out.mach p.th).mono ?_
  rintro r w2 ⟨rfl, hm, hst, hb⟩
  have H2 := hidI (H1.out.goes hm hst)
  have HS2 := hidI hst
  have HB2 := hidI (HB.out.trans hb)
  clear hm hst hb
  go_wp2_with fail
  go_end0
  exact ⟨rfl, H2.out, fun k hk hne => (HS2.out k hk).trans (HS.out k hk hne), HB2.out⟩
/-- what Run hands back: the trace of a machine, memory of its own -/
def RunTrace (S : MM × Int) (w : World) (e : Ending) (w' : World) : Prop :=
  ∃ (ga : Nat) (ls : List SX) (ve : Option Addr) (vec : Nat), e = .returned (.tuple #[.agg #[.slice (some ⟨ga, 0, none⟩) ls.length ls.length, .slice ve S.1.evs.length vec, .int .i64 S.2], .int .i64 0]) ∧
    w'.ownsRow w.heap.size 81 2 (.slice (some ⟨ga, 0, none⟩) ls.length ls.length) ls.length (ls.flatMap encS) ∧
    (∀ s ∈ ls, w'.ownsRow w.heap.size 2 1 s.v s.out.length (s.out.flatMap encI) ∧ ∀ g, s.v.ownBlock = some g → ga < g) ∧ ls.Pairwise ApartS ∧
    ls.map (fun s => (s.out, s.fin)) = S.1.ths.map (fun t => (t.out, t.fin)) ∧
    w'.ownsRow w.heap.size 127 4 (.slice ve S.1.evs.length vec) S.1.evs.length (S.1.evs.flatMap encEv) ∧
    (∀ g, (Value.slice ve S.1.evs.length vec).ownBlock = some g → g ≠ ga ∧ ∀ s ∈ ls, s.v.ownBlock ≠ some g) ∧ Below w.heap.size w w'
end Go.Proofs.YtopdcjimpdalpaaGreat

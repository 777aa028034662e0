/- TsoPlays: pairs of machines while acts are done to the last of them; acts that came in. -/
import Derived.Test.YthmmbldhbdnfpaaGreatDoorDuo
import Derived.Test.YthmmbldhbdnfpaaGreatDoorTsoEl
import Derived.Test.YthmmbldhbdnfpaaGreatDoorTwinImg
namespace Go.Proofs.YthmmbldhbdnfpaaGreatDoor
open Go.RowKit
set_option linter.unusedVariables false
set_option linter.unusedSimpArgs false

variable {w w' w0 : World} {B ga cap k : Nat} {bb : List (Nat × Nat)} {L R : List Mach} {P : List Nat}

/-- what is done -/
structure ActD where
  kind : Int
  th : Int
  n : Int
def encAct (a : ActD) : List Value := [.int .i64 a.kind, .int .i64 a.th, .int .i64 a.n]
theorem encAct_len : ∀ a, (encAct a).length = 3 := fun _ => rfl
set_option maxRecDepth 100000 in
theorem act_elem {H : Type} {enc : TypeId × Value → H} {w : World} {held : Bool} (fuel : Nat) (cs : List Value) (x : DataW H × List MemPlace) (h : DataW.trod enc Tryz.prog w 0 (fun _ => true) held fuel 49 cs = some x) : ∃ a, cs = encAct a ∧ True := by
  obtain ⟨xs, n, _, rfl, hl, hlen, hf⟩ := DataW.trod_struct Tryz.underlying49 h
  rw [show Tryz.prog.cellsOf 49 = 3 from by kernel_rfl] at hl
  match xs, hlen with
  | [y0, y1, y2], _ =>
  have e2 : Tryz.prog.cellsOf 3 = 1 := by kernel_rfl
  obtain ⟨v0, h0, -, w0⟩ := DataW.trod_int Tryz.underlying3 (hf 0 _ rfl)
  obtain ⟨v1, h1, -, w1⟩ := DataW.trod_int Tryz.underlying3 (hf 1 _ rfl)
  obtain ⟨v2, h2, -, w2⟩ := DataW.trod_int Tryz.underlying3 (hf 2 _ rfl)
  match cs, hl with
  | [c0, c1, c2], _ =>
    simp [e2] at h0 h1 h2
    exact ⟨⟨v0, v1, v2⟩, by simp [encAct, h0, h1, h2], trivial⟩

def encBB (p : Nat × Nat) : List Value := [.pointer (some ⟨p.1, 0, none⟩), .pointer (some ⟨p.2, 0, none⟩)]
theorem encBB_len : ∀ p, (encBB p).length = 2 := fun _ => rfl
theorem one_BB (p : Nat × Nat) : ∀ u ∈ encBB p, u.oneCell' = true := by
  intro u hu
  simp [encBB] at hu
  rcases hu with rfl | rfl <;> rfl
theorem bbInfo : (Tryz.prog.info? 46).map (fun i => (i.zero, i.size, i.bytes)) = some (some (.agg #[.pointer none, .pointer none]), 2, 16) := by kernel_rfl

/-- the first pair -/
theorem Duo.init {b c N : Nat} {own rown : Nat → Nat} {mm : MM} {xs : List TX} {ys : List RX} {mv tv ev mv2 tv2 ev2 : Value} (h : MAt w B b own mm xs mv tv ev) (hr : RAt w B c rown mm ys mv2 tv2 ev2) (hlow : ∀ g, own g ≠ 0 → B ≤ g) (hd : ∀ g, own g ≠ 0 → rown g = 0) (hk : MOk N mm) :
    Duo w B [⟨b, own, mm, N⟩] [⟨c, rown, mm, N⟩] [] := by
  refine ⟨⟨fun m hm => ?_, fun i j m n hij hi hj => ?_, fun m hm g hg => ?_, h.base_le⟩, fun r hr' => ?_, fun i j r s hij hi hj => ?_, fun m hm r hr' g hg => ?_, fun g hg => absurd hg (by simp)⟩
  · rw [List.mem_singleton.1 hm]; exact ⟨⟨xs, mv, tv, ev, h⟩, hk⟩
  · have a1 := (List.getElem?_eq_some_iff.1 hi).1
    have a2 := (List.getElem?_eq_some_iff.1 hj).1
    simp only [List.length_singleton] at a1 a2
    omega
  · rw [List.mem_singleton.1 hm] at hg; exact hlow g hg
  · rw [List.mem_singleton.1 hr']; exact ⟨⟨ys, mv2, tv2, ev2, hr⟩, hk⟩
  · have a1 := (List.getElem?_eq_some_iff.1 hi).1
    have a2 := (List.getElem?_eq_some_iff.1 hj).1
    simp only [List.length_singleton] at a1 a2
    omega
  · rw [List.mem_singleton.1 hm] at hg
    rw [List.mem_singleton.1 hr']
    exact hd g hg
/-- the list of pairs has grown -/
theorem Duo.grown {x : Nat} (h : Duo w B L R P) (hg : ga ∈ P) (hB : B ≤ ga) (hc : Chg (fun k => k = ga) w w') (hx : x = ga ∨ w.heap.size ≤ x) (hl : x < w'.heap.size) : Duo w' B L R [x] := by
  have h1 := h.pokes hc (fun k _ e => by subst e; exact ⟨hg, hB⟩)
  refine ⟨h1.fl, h1.rd, h1.rr, h1.pr, fun g hg' => ?_⟩
  rw [List.mem_singleton.1 hg']
  rcases hx with rfl | hx
  · exact h1.free _ hg
  · exact ⟨hl, fun m hm => h.fl.freshL hm hx, fun r hr => (h.rd r hr).fresh hx⟩

/-- the rows of an image's copy, while they are written: where they lie, how long they are -/
def Halts (w : World) (tl : List (Value × List OpD)) : Prop := ∀ p ∈ tl, ∃ g c, p.1 = .slice (some ⟨g, 0, none⟩) p.2.length (p.2.length + 2) ∧ w.heap[g]? = some (.cells c 44 (0, 0)) ∧ c.size = (p.2.length + 2) * 6
theorem Halts.set {tl : List (Value × List OpD)} (h : Halts w tl) {p : Value × List OpD} (hp : p ∈ tl) {g : Nat} (hg : p.1.ownBlock = some g) (o : Nat) (u : Value) : Halts (w.setCell ⟨g, o, none⟩ u) tl := fun q hq => by
  obtain ⟨g2, c, h1, h2, h3⟩ := h q hq
  by_cases e : g2 = g
  · subst e
    exact ⟨g2, _, h1, block_setCell u h2, by simpa using h3⟩
  · exact ⟨g2, c, h1, block_other h2 e, h3⟩
theorem Halts.of {base : Nat} {tl : List (Value × List OpD)} (h : ∀ p ∈ tl, TwRow w base p) : Halts w tl := fun p hp => by
  obtain ⟨g, h1, h2, h3⟩ := h p hp
  exact ⟨g, _, h2, h3, by rw [List.size_toArray, flat_len encOp_len]; simp⟩
/-- the blocks of these rows -/
def RowsOf (tl : List (Value × List OpD)) (k : Nat) : Prop := ∃ p ∈ tl, p.1.ownBlock = some k

/-- a copy of an image, made into a machine -/
theorem new_tw {base vg gc : Nat} {l tl : List (Value × List OpD)} {cs : List (Int × Int)} (ht : TwImg w base l cs (.slice (some ⟨vg, 0, none⟩) l.length (l.length + 2)) tl gc) (hw : ∀ p ∈ l, ∀ o ∈ p.2, wfOp o) (mem : Int) (hl : l.length ≤ 262144) (hcl : cs.length ≤ 262144) (hk : checkM mem l cs = 0) :
    Calls Tryz.prog 8 #[.agg #[.slice (some ⟨vg, 0, none⟩) l.length (l.length + 2), .int .i64 mem, .slice (some ⟨gc, 0, none⟩) cs.length (cs.length + 2)]] w (NewPost mem l cs w) := by
  obtain ⟨g, hv, hcode⟩ := ht.code.code hw
  obtain ⟨_, _, _, -, -, hsnd, -⟩ := ht.code
  have htl : tl.length = l.length := by simpa using congrArg List.length hsnd
  have h1 := new_yes hcode (headCells (c := cs.length + 2) ht.cells (by omega)) mem (by omega) (by omega) (by rw [checkM_snd hsnd]; exact hk)
  unfold NewPost at h1 ⊢
  rw [htl, hsnd] at h1
  rw [htl] at hv
  rw [hv]
  exact h1
theorem new_tw_no {base vg gc : Nat} {l tl : List (Value × List OpD)} {cs : List (Int × Int)} (ht : TwImg w base l cs (.slice (some ⟨vg, 0, none⟩) l.length (l.length + 2)) tl gc) (hw : ∀ p ∈ l, ∀ o ∈ p.2, wfOp o) (mem : Int) (hl : l.length ≤ 262144) (hcl : cs.length ≤ 262144) (hk : checkM mem l cs ≠ 0) :
    Calls Tryz.prog 8 #[.agg #[.slice (some ⟨vg, 0, none⟩) l.length (l.length + 2), .int .i64 mem, .slice (some ⟨gc, 0, none⟩) cs.length (cs.length + 2)]] w fun e w' => e = .returned (.tuple #[.pointer none, .int .i64 (checkM mem l cs)]) ∧ Below w.heap.size w w' := by
  obtain ⟨g, hv, hcode⟩ := ht.code.code hw
  obtain ⟨_, _, _, -, -, hsnd, -⟩ := ht.code
  have htl : tl.length = l.length := by simpa using congrArg List.length hsnd
  have h1 := new_no hcode (headCells (c := cs.length + 2) ht.cells (by omega)) mem (by omega) (by omega) (by rw [checkM_snd hsnd]; exact hk)
  rw [htl, checkM_snd hsnd] at h1
  rw [htl] at hv
  rw [hv]
  exact h1
theorem check_tw {base vg gc : Nat} {l tl : List (Value × List OpD)} {cs : List (Int × Int)} (ht : TwImg w base l cs (.slice (some ⟨vg, 0, none⟩) l.length (l.length + 2)) tl gc) (hw : ∀ p ∈ l, ∀ o ∈ p.2, wfOp o) (mem : Int) (hl : l.length ≤ 262144) (hcl : cs.length ≤ 262144) :
    Calls Tryz.prog 10 #[.agg #[.slice (some ⟨vg, 0, none⟩) l.length (l.length + 2), .int .i64 mem, .slice (some ⟨gc, 0, none⟩) cs.length (cs.length + 2)]] w fun e w' => e = .returned (.int .i64 (checkM mem l cs)) ∧ Below w.heap.size w w' := by
  obtain ⟨g, hv, hcode⟩ := ht.code.code hw
  obtain ⟨_, _, _, -, -, hsnd, -⟩ := ht.code
  have htl : tl.length = l.length := by simpa using congrArg List.length hsnd
  have h1 := checkM_any hcode (headCells (c := cs.length + 2) ht.cells (by omega)) mem (by omega) (by omega)
  rw [htl, checkM_snd hsnd] at h1
  rw [htl] at hv
  rw [hv]
  exact h1

/-- pairs of machines, in a list -/
structure Pl20 (w0 w : World) (B ga cap : Nat) (bb : List (Nat × Nat)) (L R : List Mach) (k : Nat) (P : List Nat) : Prop where
  duo : Duo w B L R (ga :: P)
  row : w.ownsRow B 46 2 (.slice (some ⟨ga, 0, none⟩) bb.length cap) bb.length (bb.flatMap encBB)
  lb : L.map Mach.b = bb.map Prod.fst
  rb : R.map Mach.b = bb.map Prod.snd
  same : ∀ (j : Nat) m r, L[j]? = some m → R[j]? = some r → m.mm = r.mm
  nL : ∀ m ∈ L, m.N ≤ k
  nR : ∀ r ∈ R, r.N ≤ k
  pos : 0 < bb.length ∧ bb.length ≤ 4
  old : Below w0.heap.size w0 w

theorem Pl20.below (h : Pl20 w0 w B ga cap bb L R k P) (hb : Below w.heap.size w w') : Pl20 w0 w' B ga cap bb L R k P :=
  ⟨h.duo.below hb, ownRow_keep h.row fun g _ hl => hb.block g hl, h.lb, h.rb, h.same, h.nL, h.nR, h.pos, h.old.trans (hb.mono h.old.size)⟩
theorem Pl20.alloc (h : Pl20 w0 w B ga cap bb L R k P) (o : Obj) : Pl20 w0 (w.alloc o) B ga cap bb L R k (w.heap.size :: P) := by
  have hb : Below w.heap.size w (w.alloc o) := (Below.refl _ _).alloc (Nat.le_refl _) o
  have h1 := h.below hb
  exact ⟨(h.duo.alloc o).less (fun g hg => by
    simp only [List.mem_cons] at hg ⊢
    rcases hg with e | e | e
    · exact .inr (.inl e)
    · exact .inl e
    · exact .inr (.inr e)), h1.row, h.lb, h.rb, h.same, h.nL, h.nR, h.pos, h1.old⟩
theorem Pl20.rowA {n : Nat} (h : Pl20 w0 w B ga cap bb L R k P) (hb : Below w.heap.size w w') (o : Obj) (hn : bb.length = n) : (w'.alloc o).ownsRow B 46 2 (.slice (some ⟨ga, 0, none⟩) n cap) n (bb.flatMap encBB) := by
  subst hn
  exact (h.below (hb.alloc hb.size o)).row
theorem Pl20.less {P' : List Nat} (h : Pl20 w0 w B ga cap bb L R k P) (hs : ∀ g ∈ P', g ∈ P) : Pl20 w0 w B ga cap bb L R k P' :=
  ⟨h.duo.less (fun g hg => by
    rcases List.mem_cons.1 hg with rfl | hg
    · exact List.mem_cons_self
    · exact List.mem_cons_of_mem _ (hs g hg)), h.row, h.lb, h.rb, h.same, h.nL, h.nR, h.pos, h.old⟩
theorem Pl20.mono {k' : Nat} (h : Pl20 w0 w B ga cap bb L R k P) (hk : k ≤ k') : Pl20 w0 w B ga cap bb L R k' P :=
  ⟨h.duo, h.row, h.lb, h.rb, h.same, fun m hm => Nat.le_trans (h.nL m hm) hk, fun r hr => Nat.le_trans (h.nR r hr) hk, h.pos, h.old⟩
theorem Pl20.lens (h : Pl20 w0 w B ga cap bb L R k P) : L.length = bb.length ∧ R.length = bb.length := by
  have h1 := congrArg List.length h.lb
  have h2 := congrArg List.length h.rb
  simp only [List.length_map] at h1 h2
  exact ⟨h1, h2⟩
theorem Pl20.at (h : Pl20 w0 w B ga cap bb L R k P) {i : Nat} (hi : i < bb.length) : ∃ p m r, bb[i]? = some p ∧ L[i]? = some m ∧ R[i]? = some r ∧ m.b = p.1 ∧ r.b = p.2 ∧ m.mm = r.mm := by
  have hl := h.lens
  obtain ⟨p, hp⟩ := some_at hi
  obtain ⟨m, hm⟩ := some_at (l := L) (k := i) (by omega)
  obtain ⟨r, hr⟩ := some_at (l := R) (k := i) (by omega)
  have h1 := congrArg (fun l => l[i]?) h.lb
  have h2 := congrArg (fun l => l[i]?) h.rb
  simp only [List.getElem?_map, hp, hm, hr, Option.map_some, Option.some.injEq] at h1 h2
  exact ⟨p, m, r, hp, hm, hr, h1, h2, h.same i m r hm hr⟩
theorem Pl20.both (h : Pl20 w0 w B ga cap bb L R k P) {i : Nat} {m r : Mach} (hm : L[i]? = some m) (hr : R[i]? = some r) : ∃ xs mv tv ev ys mv2 tv2 ev2, MAt w B m.b m.own m.mm xs mv tv ev ∧ RAt w B r.b r.own m.mm ys mv2 tv2 ev2 ∧ MOk m.N m.mm := by
  obtain ⟨⟨xs, mv, tv, ev, h1⟩, h2⟩ := h.duo.fl.each m (List.mem_of_getElem? hm)
  obtain ⟨⟨ys, mv2, tv2, ev2, h3⟩, h4⟩ := h.duo.rd r (List.mem_of_getElem? hr)
  rw [← h.same i m r hm hr] at h3
  exact ⟨xs, mv, tv, ev, ys, mv2, tv2, ev2, h1, h3, h2⟩
theorem mapSet {l : List Mach} {i : Nat} {m x : Mach} (hi : l[i]? = some m) (hx : x.b = m.b) : (l.set i x).map Mach.b = l.map Mach.b := by
  refine List.ext_getElem? fun j => ?_
  rw [List.getElem?_map, List.getElem?_map]
  by_cases e : i = j
  · subst e
    rw [List.getElem?_set_self (List.getElem?_eq_some_iff.1 hi).1, hi]
    simp [hx]
  · rw [List.getElem?_set_ne e]
theorem memSet {l : List Mach} {i : Nat} {x n : Mach} (hn : n ∈ l.set i x) : n = x ∨ n ∈ l := by
  rcases List.mem_or_eq_of_mem_set hn with h | h
  · exact .inr h
  · exact .inl h
/-- both machines of a pair have gone on -/
theorem Pl20.went (h : Pl20 w0 w B ga cap bb L R k P) {i : Nat} {m r m' r' : Mach} (hm : L[i]? = some m) (hr : R[i]? = some r) (hd : Duo w' B (L.set i m') (R.set i r') (ga :: P)) (hst : ∀ g ∈ ga :: P, w'.heap[g]? = w.heap[g]?) (hb : Below B w w') (hB : w0.heap.size ≤ B) (h1 : m'.b = m.b) (h2 : r'.b = r.b) (h3 : m'.mm = r'.mm) (h4 : m'.N ≤ k + 1) (h5 : r'.N ≤ k + 1) :
    Pl20 w0 w' B ga cap bb (L.set i m') (R.set i r') (k + 1) P := by
  refine ⟨hd, ownRow_keep h.row fun g hg _ => hst g (by simp only [Value.ownBlock, Option.some.injEq] at hg; subst hg; exact List.mem_cons_self), by rw [mapSet hm h1]; exact h.lb, by rw [mapSet hr h2]; exact h.rb, fun j a b ha hb' => ?_, fun a ha => ?_, fun a ha => ?_, h.pos, h.old.trans (hb.mono hB)⟩
  · rcases getSet hm ha with ⟨rfl, rfl⟩ | ⟨hne, ha'⟩
    · rcases getSet hr hb' with ⟨-, rfl⟩ | ⟨hne, -⟩
      · exact h3
      · exact absurd rfl hne
    · rcases getSet hr hb' with ⟨rfl, -⟩ | ⟨-, hb''⟩
      · exact absurd rfl hne
      · exact h.same j a b ha' hb''
  · rcases memSet ha with rfl | ha
    · exact h4
    · have := h.nL a ha; omega
  · rcases memSet ha with rfl | ha
    · exact h5
    · have := h.nR a ha; omega
/-- one more pair -/
theorem Pl20.copied (h : Pl20 w0 w B ga cap bb L R k P) {w3 w5 : World} {m' r' : Mach} {ao : Option Addr} {cp : Nat} {o : Obj} (hd : Duo w3 B (L ++ [m']) (R ++ [r']) (ga :: P)) (hb : Below w.heap.size w w3) (hrow : w5.ownsRow B 46 2 (.slice ao (bb.length + 1) cp) (bb.length + 1) (bb.flatMap encBB ++ encBB (m'.b, r'.b)))
    (hf : ∀ g, (Value.slice ao (bb.length + 1) cp).ownBlock = some g → (Value.slice (some ⟨ga, 0, none⟩) bb.length cap).ownBlock = some g ∨ (w3.alloc o).heap.size ≤ g) (hg : (w3.alloc o).grownBy w5 (Value.slice (some ⟨ga, 0, none⟩) bb.length cap).ownBlock) (h3 : m'.mm = r'.mm) (h4 : m'.N ≤ k) (h5 : r'.N ≤ k) (hl : bb.length < 4) (hw0 : w0.heap.size ≤ B) :
    ∃ ga', ao = some ⟨ga', 0, none⟩ ∧ Pl20 w0 w5 B ga' cp (bb ++ [(m'.b, r'.b)]) (L ++ [m']) (R ++ [r']) k [] := by
  obtain ⟨g, cur, rfl, hgB, hgb, -, -⟩ := ownsRow_some hrow (by omega)
  have hlen := h.lens
  have hba : Below w3.heap.size w3 (w3.alloc o) := (Below.refl _ _).alloc (Nat.le_refl _) o
  have hd2 := hd.below hba
  have hc : Chg (fun k => k = ga) (w3.alloc o) w5 := Chg.grown (S := fun k => k = ga) (Chg.refl _ _) hg (fun q e => .inl (by simp only [Value.ownBlock, Option.some.injEq] at e; exact e.symm))
  have hBga : B ≤ ga := (rowLt h.row rfl).1
  refine ⟨g, rfl, hd2.grown List.mem_cons_self hBga hc ((hf g rfl).imp (fun e => by simp only [Value.ownBlock, Option.some.injEq] at e; exact e.symm) id) (lt_of_block hgb), by rw [List.length_append, List.length_singleton, flat_snoc]; exact hrow, by simp [h.lb], by simp [h.rb], fun j a b ha hb' => ?_, fun a ha => ?_, fun a ha => ?_, by simp; omega, ?_⟩
  · rcases getSnoc ha with ⟨l1, ha'⟩ | ⟨l1, rfl⟩
    · rcases getSnoc hb' with ⟨-, hb''⟩ | ⟨l2, -⟩
      · exact h.same j a b ha' hb''
      · omega
    · rcases getSnoc hb' with ⟨l2, -⟩ | ⟨-, rfl⟩
      · omega
      · exact h3
  · rcases List.mem_append.1 ha with ha | ha
    · exact h.nL a ha
    · rw [List.mem_singleton.1 ha]; exact h4
  · rcases List.mem_append.1 ha with ha | ha
    · exact h.nR a ha
    · rw [List.mem_singleton.1 ha]; exact h5
  · have h9 := h.old.trans (hb.mono h.old.size)
    have h8 := h9.alloc h9.size o
    exact Chg.below h8 h8.size hc (fun q e => by have e' : q = ga := e; omega)
end Go.Proofs.YthmmbldhbdnfpaaGreatDoor

/- Put together by merge.py out of XTsoA.lean.tpl, XTsoB.lean.tpl, XTsoC.lean.tpl, XTsoP.lean.tpl. -/
import Derived.Test.YthmmbldhbdnfpaaGreatDoorMSpec
import Derived.Test.YthmmbldhbdnfpaaGreatDoorMBase
namespace Go.Proofs.YthmmbldhbdnfpaaGreatDoor
open Go.RowKit
set_option linter.unusedVariables false
set_option linter.unusedSimpArgs false

section
/-- api.Event: Thread, Kind, A, B -/
def encEv (x : Ev) : List Value := [.int .i64 x.th, .int .u8 x.k, .int .i64 x.a, .int .i64 x.b]
theorem encEv_len : ∀ a, (encEv a).length = 4 := fun _ => rfl
def encI (z : Int) : List Value := [.int .i64 z]
theorem encI_len : ∀ a, (encI a).length = 1 := fun _ => rfl

/-- a thread, and where its parts lie: its code, its buffer, what it told -/
structure TX where
  th : MT
  cv : Value
  bb : Nat
  ov : Value

/-- a thread as cells: code, reg, at, wait, out, end -/
def encX (x : TX) : List Value :=
  [x.cv, .int .i64 (x.th.reg 0), .int .i64 (x.th.reg 1), .int .i64 (x.th.reg 2), .int .i64 (x.th.reg 3), .int .i64 (x.th.reg 4), .int .i64 (x.th.reg 5), .int .i64 (x.th.reg 6), .int .i64 (x.th.reg 7),
   .int .i64 x.th.at_, .pointer (some ⟨x.bb, 0, none⟩), x.ov, .int .u8 x.th.fin]
theorem encX_len : ∀ x, (encX x).length = 13 := fun _ => rfl
theorem encX_reg (x : TX) : ∀ r, r < 8 → (encX x)[1 + r]? = some (.int .i64 (x.th.reg r))
  | 0, _ => rfl | 1, _ => rfl | 2, _ => rfl | 3, _ => rfl | 4, _ => rfl | 5, _ => rfl | 6, _ => rfl | 7, _ => rfl
  | n + 8, h => absurd h (by omega)
theorem encX_setReg (x : TX) (v : Int) : ∀ r, r < 8 → encX { x with th := { x.th with reg := upd x.th.reg r v } } = (encX x).set (1 + r) (.int .i64 v)
  | 0, _ => rfl | 1, _ => rfl | 2, _ => rfl | 3, _ => rfl | 4, _ => rfl | 5, _ => rfl | 6, _ => rfl | 7, _ => rfl
  | n + 8, h => absurd h (by omega)

/-- a thread's parts: blocks of their own; own tells whose a block is -/
structure TsAt (w : World) (base : Nat) (own : Nat → Nat) (i : Nat) (x : TX) : Prop where
  code : RdT encOp w 6 x.cv x.th.code
  codeT : ∀ g, x.th.code ≠ [] → x.cv.ownBlock = some g → base ≤ g ∧ own g = 5 + 3 * i
  ring : ∃ c f, Ring w x.bb x.th.wait c f
  ringT : base ≤ x.bb ∧ own x.bb = 6 + 3 * i
  out : w.ownsRow base 2 1 x.ov x.th.out.length (x.th.out.flatMap encI)
  outT : ∀ g, x.ov.ownBlock = some g → own g = 7 + 3 * i

structure MAt (w : World) (base b : Nat) (own : Nat → Nat) (mm : MM) (xs : List TX) (mv tv ev : Value) : Prop where
  blk : w.heap[b]? = some (.cells #[.bool true, mv, tv, ev] 103 (0, 0))
  bT : base ≤ b ∧ own b = 1
  mem : w.ownsRow base 2 1 mv mm.mem.length (mm.mem.flatMap encI)
  memT : ∀ g, mv.ownBlock = some g → own g = 2
  ths : w.ownsRow base 112 13 tv xs.length (xs.flatMap encX)
  thsT : ∀ g, tv.ownBlock = some g → own g = 3
  evs : w.ownsRow base 154 4 ev mm.evs.length (mm.evs.flatMap encEv)
  evsT : ∀ g, ev.ownBlock = some g → own g = 4
  same : mm.ths = xs.map TX.th
  th : ∀ (i : Nat) x, xs[i]? = some x → TsAt w base own i x
  fresh : ∀ k, w.heap.size ≤ k → own k = 0

theorem RdT.keepN {α : Type} {enc : α → List Value} {w w' : World} {sz : Nat} {v : Value} {l : List α} (h : RdT enc w sz v l) (hk : ∀ g, l ≠ [] → v.ownBlock = some g → g < w.heap.size → w'.heap[g]? = w.heap[g]?) : RdT enc w' sz v l := by
  by_cases e : l = []
  · subst e
    obtain ⟨h1, ao, cap, h2, h3, h4⟩ := h
    exact ⟨h1, ao, cap, h2, h3, fun hn => absurd hn (by simp)⟩
  · exact h.keep fun g hg hl => hk g e hg hl

theorem TsAt.keep {w w' : World} {base : Nat} {own own' : Nat → Nat} {i : Nat} {x : TX} (h : TsAt w base own i x) (ho : ∀ k, k < w.heap.size → own' k = own k) 
    (hk : ∀ g, own g = 5 + 3 * i ∨ own g = 6 + 3 * i ∨ own g = 7 + 3 * i → g < w.heap.size → w'.heap[g]? = w.heap[g]?) : TsAt w' base own' i x := by
  obtain ⟨c, f, hr⟩ := h.ring
  refine ⟨h.code.keepN fun g hn hg hl => hk g (.inl (h.codeT g hn hg).2) hl, fun g hn hg => ?_, ⟨c, f, hr.keep (hk _ (.inr (.inl h.ringT.2)) hr.lt)⟩, ⟨h.ringT.1, by rw [ho _ hr.lt]; exact h.ringT.2⟩,
    ownRow_keep h.out fun g hg hl => hk g (.inr (.inr (h.outT g hg))) hl, fun g hg => by rw [ho _ (rowLt h.out hg).2]; exact h.outT g hg⟩
  refine ⟨(h.codeT g hn hg).1, ?_⟩
  obtain ⟨h1, ao, cap, h2, h3, h4⟩ := h.code
  obtain ⟨b, off, rfl, hb, _⟩ := h4 (List.length_pos_iff.2 hn)
  rw [h2] at hg
  simp only [Value.ownBlock, Option.some.injEq] at hg
  subst hg
  rw [ho _ hb]
  exact (h.codeT b hn (by rw [h2]; rfl)).2

variable {w w' : World} {base b : Nat} {own own' : Nat → Nat} {mm : MM} {xs : List TX} {mv tv ev : Value}

theorem MAt.lt (h : MAt w base b own mm xs mv tv ev) : b < w.heap.size := lt_of_block h.blk
theorem MAt.base_le (h : MAt w base b own mm xs mv tv ev) : base ≤ w.heap.size := Nat.le_trans h.bT.1 (Nat.le_of_lt h.lt)

theorem MAt.keep (h : MAt w base b own mm xs mv tv ev) (hs : w.heap.size ≤ w'.heap.size) (hk : ∀ g, own g ≠ 0 → g < w.heap.size → w'.heap[g]? = w.heap[g]?) : MAt w' base b own mm xs mv tv ev :=
  ⟨(hk b (by rw [h.bT.2]; decide) h.lt).trans h.blk, h.bT, ownRow_keep h.mem fun g hg hl => hk g (by rw [h.memT g hg]; decide) hl, h.memT,
    ownRow_keep h.ths fun g hg hl => hk g (by rw [h.thsT g hg]; decide) hl, h.thsT,
    ownRow_keep h.evs fun g hg hl => hk g (by rw [h.evsT g hg]; decide) hl, h.evsT, h.same,
    fun i x hx => (h.th i x hx).keep (fun _ _ => rfl) fun g hg hl => hk g (by omega) hl, fun k hk' => h.fresh k (by omega)⟩
theorem MAt.below (h : MAt w base b own mm xs mv tv ev) (hb : Below w.heap.size w w') : MAt w' base b own mm xs mv tv ev := h.keep hb.size fun g _ hl => hb.block g hl
theorem MAt.drewN (h : MAt w base b own mm xs mv tv ev) (n : Nat) : MAt (w.drewN n) base b own mm xs mv tv ev := h.keep (Nat.le_refl _) fun g _ hl => rfl
theorem MAt.drew (h : MAt w base b own mm xs mv tv ev) : MAt w.drew base b own mm xs mv tv ev := h.keep (Nat.le_refl _) fun g _ hl => rfl
/-- a change of blocks that are none of the machine's -/
theorem MAt.chg {S : Nat → Prop} (h : MAt w base b own mm xs mv tv ev) (hc : Chg S w w') (hs : ∀ k, own k ≠ 0 → ¬ S k) : MAt w' base b own mm xs mv tv ev := h.keep hc.size fun g hg hl => hc.block g hl (hs g hg)
theorem heapSize_setCell (w : World) (p : Addr) (u : Value) : (w.setCell p u).heap.size = w.heap.size := by simp [World.setCell]

theorem set_at {α : Type} {l : List α} {n : Nat} {x : α} (h : l[n]? = some x) (y : α) : (l.set n y)[n]? = some y := by
  rw [List.getElem?_set_self (List.getElem?_eq_some_iff.1 h).1]
theorem MAt.th_at (h : MAt w base b own mm xs mv tv ev) {n : Nat} {x : TX} (hx : xs[n]? = some x) : mm.ths[n]? = some x.th := by rw [h.same]; simp [hx]

/-- the threads' block -/
theorem MAt.tslice (h : MAt w base b own mm xs mv tv ev) {n : Nat} {x : TX} (hx : xs[n]? = some x) : ∃ tb cap, tv = .slice (some ⟨tb, 0, none⟩) xs.length cap ∧ own tb = 3 := by
  have hl := (List.getElem?_eq_some_iff.1 hx).1
  obtain ⟨ao, cap, rfl⟩ := ownsRow_shape h.ths
  obtain ⟨tb, cur, rfl, _⟩ := ownsRow_some h.ths (by omega)
  exact ⟨tb, cap, rfl, h.thsT tb rfl⟩
/-- one cell of a thread -/
theorem MAt.cell {tb cap : Nat} (h : MAt w base b own mm xs mv (.slice (some ⟨tb, 0, none⟩) xs.length cap) ev) {n : Nat} {x : TX} (hx : xs[n]? = some x) (j : Nat) (u : Value) (hu : (encX x)[j]? = some u) : w.cell? ⟨tb, n * 13 + j, none⟩ = some u := by
  obtain ⟨b', off, e1, hb, hc⟩ := RdT.at (enc := encX) encX_len (Rd.of_own h.ths) hx
  simp only [Option.some.injEq, Addr.mk.injEq, and_true] at e1
  obtain ⟨rfl, rfl⟩ := e1
  have := hc j u hu
  rwa [Nat.zero_add] at this
theorem MAt.free {tb cap : Nat} (h : MAt w base b own mm xs mv (.slice (some ⟨tb, 0, none⟩) xs.length cap) ev) (hn : 0 < xs.length) (o : Nat) : w.frozen? ⟨tb, o, none⟩ = false := by
  obtain ⟨tb', cur, e1, _, hg, _⟩ := ownsRow_some h.ths hn
  simp only [Option.some.injEq, Addr.mk.injEq, and_true] at e1
  subst e1
  exact free_of_block hg
theorem MAt.wcell (h : MAt w base b own mm xs mv tv ev) (j : Nat) (u : Value) (hu : (#[Value.bool true, mv, tv, ev])[j]? = some u) : w.cell? ⟨b, j, none⟩ = some u := cell_of_block h.blk hu
theorem MAt.wfree (h : MAt w base b own mm xs mv tv ev) (o : Nat) : w.frozen? ⟨b, o, none⟩ = false := free_of_block h.blk

/-- one cell of a thread is written: its parts stay where they are -/
theorem MAt.poke {tb cap : Nat} (h : MAt w base b own mm xs mv (.slice (some ⟨tb, 0, none⟩) xs.length cap) ev) {n : Nat} {x : TX} (hx : xs[n]? = some x) (y : TX) (j : Nat) (u : Value) (hj : j < 13) (he : encX y = (encX x).set j u)
    (h1 : y.cv = x.cv) (h2 : y.th.code = x.th.code) (h3 : y.bb = x.bb) (h4 : y.th.wait = x.th.wait) (h5 : y.ov = x.ov) (h6 : y.th.out = x.th.out) :
    MAt (w.setCell ⟨tb, n * 13 + j, none⟩ u) base b own (mm.put n y.th) (xs.set n y) mv (.slice (some ⟨tb, 0, none⟩) (xs.set n y).length cap) ev := by
  have hk : ∀ g, own g ≠ 3 → (w.setCell ⟨tb, n * 13 + j, none⟩ u).heap[g]? = w.heap[g]? := fun g hg => Below.heap_setCell _ _ _ _ fun e => hg (by rw [e]; exact h.thsT tb rfl)
  have hr := (rowSet encX_len h.ths hx he hj).2
  refine ⟨by rw [List.length_set]; exact (hk b (by rw [h.bT.2]; decide)).trans h.blk, h.bT, ownRow_keep h.mem fun g hg _ => hk g (by rw [h.memT g hg]; decide), h.memT, by rw [List.length_set]; exact hr, h.thsT, ownRow_keep h.evs fun g hg _ => hk g (by rw [h.evsT g hg]; decide), h.evsT,
    by rw [MM.put, List.map_set, h.same], fun i z hz => ?_, fun k hk' => h.fresh k (by rw [heapSize_setCell] at hk'; exact hk')⟩
  rw [List.getElem?_set] at hz
  split at hz
  · rename_i e
    subst e
    split at hz
    · cases hz
      have ht := (h.th n x hx).keep (w' := w.setCell ⟨tb, n * 13 + j, none⟩ u) (own' := own) (fun _ _ => rfl) fun g hg _ => hk g (by omega)
      exact ⟨by rw [h1, h2]; exact ht.code, by rw [h1, h2]; exact ht.codeT, by rw [h3, h4]; exact ht.ring, by rw [h3]; exact ht.ringT, by rw [h5, h6]; exact ht.out, by rw [h5]; exact ht.outT⟩
    · cases hz
  · exact (h.th i z hz).keep (fun _ _ => rfl) fun g hg _ => hk g (by omega)

/-- the ring of a thread has changed -/
theorem MAt.ringed (h : MAt w base b own mm xs mv tv ev) {n : Nat} {x : TX} (hx : xs[n]? = some x) (hc : Chg (fun k => k = x.bb) w w') {q : List (Int × Int)} {c : Array Value} {f : Nat} (hr : Ring w' x.bb q c f) :
    MAt w' base b own (mm.put n { x.th with wait := q }) (xs.set n { x with th := { x.th with wait := q } }) mv tv ev := by
  have hb := (h.th n x hx).ringT
  have hk : ∀ g, own g ≠ 6 + 3 * n → g < w.heap.size → w'.heap[g]? = w.heap[g]? := fun g hg hl => hc.block g hl fun e => hg (by rw [e]; exact hb.2)
  have hs : (xs.set n { x with th := { x.th with wait := q } }).flatMap encX = xs.flatMap encX := by
    refine List.ext_getElem? fun k => ?_
    have := flatSet (j := 0) (u := x.cv) encX_len xs hx (y := { x with th := { x.th with wait := q } }) rfl (by decide)
    rw [this, List.getElem?_set]
    split
    · rename_i e
      subst e
      have h9 := flat_at encX_len xs hx 0 x.cv rfl
      rw [h9, if_pos (List.getElem?_eq_some_iff.1 h9).1]
    · rfl
  refine ⟨(hk b (by rw [h.bT.2]; omega) h.lt).trans h.blk, h.bT, ownRow_keep h.mem fun g hg hl => hk g (by rw [h.memT g hg]; omega) hl, h.memT, by rw [List.length_set, hs]; exact ownRow_keep h.ths fun g hg hl => hk g (by rw [h.thsT g hg]; omega) hl, h.thsT,
    ownRow_keep h.evs fun g hg hl => hk g (by rw [h.evsT g hg]; omega) hl, h.evsT, by rw [MM.put, List.map_set, h.same], fun i z hz => ?_, fun k hk' => h.fresh k (by have := hc.size; omega)⟩
  rw [List.getElem?_set] at hz
  split at hz
  · rename_i e
    subst e
    split at hz
    · cases hz
      have ht := h.th n x hx
      refine ⟨ht.code.keepN fun g hn hg hl => hk g (by rw [(ht.codeT g hn hg).2]; omega) hl, ht.codeT, ⟨c, f, hr⟩, hb, ownRow_keep ht.out fun g hg hl => hk g (by rw [ht.outT g hg]; omega) hl, ht.outT⟩
    · cases hz
  · rename_i hne
    exact (h.th i z hz).keep (fun _ _ => rfl) fun g hg hl => hk g (by omega) hl

/-- one word -/
theorem MAt.word {mb mc : Nat} (h : MAt w base b own mm xs (.slice (some ⟨mb, 0, none⟩) mm.mem.length mc) tv ev) {a : Nat} (ha : a < mm.mem.length) (v : Int) :
    MAt (w.setCell ⟨mb, a, none⟩ (.int .i64 v)) base b own { mm with mem := mm.mem.set a v } xs (.slice (some ⟨mb, 0, none⟩) mm.mem.length mc) tv ev := by
  have hk : ∀ g, own g ≠ 2 → (w.setCell ⟨mb, a, none⟩ (.int .i64 v)).heap[g]? = w.heap[g]? := fun g hg => Below.heap_setCell _ _ _ _ fun e => hg (by rw [e]; exact h.memT mb rfl)
  have hr := (rowSet (j := 0) (y := v) (u := .int .i64 v) encI_len h.mem (List.getElem?_eq_getElem ha) rfl (by decide)).2
  rw [Nat.mul_one, Nat.add_zero] at hr
  exact ⟨(hk b (by rw [h.bT.2]; decide)).trans h.blk, h.bT, by rw [List.length_set]; exact hr, h.memT, ownRow_keep h.ths fun g hg _ => hk g (by rw [h.thsT g hg]; decide), h.thsT, ownRow_keep h.evs fun g hg _ => hk g (by rw [h.evsT g hg]; decide), h.evsT, h.same,
    fun i z hz => (h.th i z hz).keep (fun _ _ => rfl) fun g hg _ => hk g (by omega), fun k hk' => h.fresh k (by rw [heapSize_setCell] at hk'; exact hk')⟩
theorem MAt.mslice (h : MAt w base b own mm xs mv tv ev) (hm : 0 < mm.mem.length) : ∃ mb cap, mv = .slice (some ⟨mb, 0, none⟩) mm.mem.length cap ∧ own mb = 2 := by
  obtain ⟨ao, cap, rfl⟩ := ownsRow_shape h.mem
  obtain ⟨mb, cur, rfl, _⟩ := ownsRow_some h.mem hm
  exact ⟨mb, cap, rfl, h.memT mb rfl⟩
theorem MAt.mcell {mb mc : Nat} (h : MAt w base b own mm xs (.slice (some ⟨mb, 0, none⟩) mm.mem.length mc) tv ev) {a : Nat} (ha : a < mm.mem.length) : w.cell? ⟨mb, a, none⟩ = some (.int .i64 (mm.mem.getD a 0)) := by
  obtain ⟨b', off, e1, hb, hc⟩ := RdT.at (enc := encI) encI_len (Rd.of_own h.mem) (List.getElem?_eq_getElem ha)
  simp only [Option.some.injEq, Addr.mk.injEq, and_true] at e1
  obtain ⟨rfl, rfl⟩ := e1
  have := hc 0 _ rfl
  rw [Nat.zero_add, Nat.mul_one, Nat.add_zero] at this
  rw [this]
  simp [List.getD, ha]
theorem MAt.mfree {mb mc : Nat} (h : MAt w base b own mm xs (.slice (some ⟨mb, 0, none⟩) mm.mem.length mc) tv ev) (hn : 0 < mm.mem.length) (o : Nat) : w.frozen? ⟨mb, o, none⟩ = false := by
  obtain ⟨tb', cur, e1, _, hg, _⟩ := ownsRow_some h.mem hn
  simp only [Option.some.injEq, Addr.mk.injEq, and_true] at e1
  subst e1
  exact free_of_block hg

/-- blocks that are new are tagged -/
def retag (own : Nat → Nat) (v : Value) (p n : Nat) : Nat → Nat := fun k => if v.ownBlock = some k ∧ n ≤ k then p else own k
theorem retag_old {own : Nat → Nat} {v : Value} {p n k : Nat} (h : k < n) : retag own v p n k = own k := by
  unfold retag
  rw [if_neg (by omega)]
theorem retag_new {own : Nat → Nat} {v u : Value} {p n g : Nat} (hf : ∀ g, v.ownBlock = some g → u.ownBlock = some g ∨ n ≤ g) (hu : ∀ g, u.ownBlock = some g → own g = p) (hg : v.ownBlock = some g) : retag own v p n g = p := by
  unfold retag
  split
  · rfl
  · rename_i hn
    rcases hf g hg with e | e
    · exact hu g e
    · exact absurd ⟨hg, e⟩ hn

theorem retag_fresh {own : Nat → Nat} {v : Value} {p n m k : Nat} (hl : ∀ g, v.ownBlock = some g → g < m) (h0 : own k = 0) (hk : m ≤ k) : retag own v p n k = 0 := by
  unfold retag
  rw [if_neg (fun h => by have := hl k h.1; omega)]
  exact h0

/-- events -/
theorem MAt.event (h : MAt w base b own mm xs mv tv ev) (es : List Ev) (ev' : Value) (hc : Chg (fun k => k = b ∨ ev.ownBlock = some k) w w') (hb : w'.heap[b]? = some (.cells #[.bool true, mv, tv, ev'] 103 (0, 0)))
    (he : w'.ownsRow base 154 4 ev' es.length (es.flatMap encEv)) (hf : ∀ g, ev'.ownBlock = some g → ev.ownBlock = some g ∨ w.heap.size ≤ g) :
    MAt w' base b (retag own ev' 4 w.heap.size) { mm with evs := es } xs mv tv ev' := by
  have ho : ∀ k, k < w.heap.size → retag own ev' 4 w.heap.size k = own k := fun k hk => retag_old hk
  have hk : ∀ g, own g ≠ 1 → own g ≠ 4 → g < w.heap.size → w'.heap[g]? = w.heap[g]? := fun g h1 h4 hl => hc.block g hl fun e => by
    rcases e with e | e
    · exact h1 (by rw [e]; exact h.bT.2)
    · exact h4 (h.evsT g e)
  exact ⟨hb, ⟨h.bT.1, by rw [ho _ h.lt]; exact h.bT.2⟩, ownRow_keep h.mem fun g hg hl => hk g (by rw [h.memT g hg]; decide) (by rw [h.memT g hg]; decide) hl, fun g hg => by rw [ho _ (rowLt h.mem hg).2]; exact h.memT g hg,
    ownRow_keep h.ths fun g hg hl => hk g (by rw [h.thsT g hg]; decide) (by rw [h.thsT g hg]; decide) hl, fun g hg => by rw [ho _ (rowLt h.ths hg).2]; exact h.thsT g hg, he, fun g hg => retag_new hf h.evsT hg, h.same,
    fun i z hz => (h.th i z hz).keep ho fun g hg hl => hk g (by omega) (by omega) hl, fun k hk' => retag_fresh (fun g hg => (rowLt he hg).2) (h.fresh k (by have := hc.size; omega)) hk'⟩

/-- a thread tells -/
theorem MAt.told {tb cap : Nat} (h : MAt w base b own mm xs mv (.slice (some ⟨tb, 0, none⟩) xs.length cap) ev) {n : Nat} {x : TX} (hx : xs[n]? = some x) (os : List Int) (ov' : Value) (hc : Chg (fun k => x.ov.ownBlock = some k) w w')
    (he : w'.ownsRow base 2 1 ov' os.length (os.flatMap encI)) (hf : ∀ g, ov'.ownBlock = some g → x.ov.ownBlock = some g ∨ w.heap.size ≤ g) :
    MAt (w'.setCell ⟨tb, n * 13 + 11, none⟩ ov') base b (retag own ov' (7 + 3 * n) w.heap.size) (mm.put n { x.th with out := os }) (xs.set n { x with th := { x.th with out := os }, ov := ov' }) mv (.slice (some ⟨tb, 0, none⟩) (xs.set n { x with th := { x.th with out := os }, ov := ov' }).length cap) ev := by
  have ho : ∀ k, k < w.heap.size → retag own ov' (7 + 3 * n) w.heap.size k = own k := fun k hk => retag_old hk
  have hx7 := (h.th n x hx).outT
  have hk0 : ∀ g, own g ≠ 7 + 3 * n → g < w.heap.size → w'.heap[g]? = w.heap[g]? := fun g h1 hl => hc.block g hl fun e => h1 (hx7 g e)
  have hk : ∀ g, own g ≠ 3 → own g ≠ 7 + 3 * n → g < w.heap.size → (w'.setCell ⟨tb, n * 13 + 11, none⟩ ov').heap[g]? = w.heap[g]? := fun g h3 h7 hl => by
    rw [Below.heap_setCell _ _ _ _ fun e => h3 (by rw [e]; exact h.thsT tb rfl)]
    exact hk0 g h7 hl
  have htb : tb < w.heap.size := (rowLt h.ths rfl).2
  have hr := (rowSet (j := 11) (y := { x with th := { x.th with out := os }, ov := ov' }) (u := ov') encX_len (ownRow_keep h.ths fun g hg hl => hk0 g (by rw [h.thsT g hg]; omega) hl) hx rfl (by decide)).2
  have hntb : ∀ g, ov'.ownBlock = some g → g ≠ tb := fun g hg e => by
    rcases hf g hg with e' | e'
    · have := hx7 g e'; rw [e, h.thsT tb rfl] at this; omega
    · omega
  refine ⟨by rw [List.length_set]; exact (hk b (by rw [h.bT.2]; decide) (by rw [h.bT.2]; omega) h.lt).trans h.blk, ⟨h.bT.1, by rw [ho _ h.lt]; exact h.bT.2⟩, ownRow_keep h.mem fun g hg hl => hk g (by rw [h.memT g hg]; decide) (by rw [h.memT g hg]; omega) hl, fun g hg => by rw [ho _ (rowLt h.mem hg).2]; exact h.memT g hg,
    by rw [List.length_set]; exact hr, fun g hg => by rw [ho _ (rowLt h.ths hg).2]; exact h.thsT g hg, ownRow_keep h.evs fun g hg hl => hk g (by rw [h.evsT g hg]; decide) (by rw [h.evsT g hg]; omega) hl, fun g hg => by rw [ho _ (rowLt h.evs hg).2]; exact h.evsT g hg,
    by rw [MM.put, List.map_set, h.same], fun i z hz => ?_, fun k hk' => by rw [heapSize_setCell] at hk'; exact retag_fresh (fun g hg => (rowLt he hg).2) (h.fresh k (by have := hc.size; omega)) hk'⟩
  rw [List.getElem?_set] at hz
  split at hz
  · rename_i e
    subst e
    split at hz
    · cases hz
      have ht := h.th n x hx
      obtain ⟨c, f, hrg⟩ := ht.ring
      have htk := ht
      refine ⟨ht.code.keepN fun g hn hg hl => hk g (by rw [(ht.codeT g hn hg).2]; omega) (by rw [(ht.codeT g hn hg).2]; omega) hl, fun g hn hg => ?_, ⟨c, f, hrg.keep (hk _ (by rw [ht.ringT.2]; omega) (by rw [ht.ringT.2]; omega) hrg.lt)⟩,
        ⟨ht.ringT.1, by rw [ho _ hrg.lt]; exact ht.ringT.2⟩, ownRow_keep he fun g hg _ => Below.heap_setCell _ _ _ _ (hntb g hg), fun g hg => retag_new hf hx7 hg⟩
      refine ⟨(ht.codeT g hn hg).1, ?_⟩
      obtain ⟨h1, ao, cp, h2, h3, h4⟩ := ht.code
      obtain ⟨bb, off, rfl, hb, _⟩ := h4 (List.length_pos_iff.2 hn)
      rw [h2] at hg
      simp only [Value.ownBlock, Option.some.injEq] at hg
      subst hg
      rw [ho _ hb]
      exact (ht.codeT bb hn (by rw [h2]; rfl)).2
    · cases hz
  · rename_i hne
    exact (h.th i z hz).keep ho fun g hg hl => hk g (by omega) (by omega) hl

/-- what a call leaves behind: a machine in the old one's place -/
def MGoes (w : World) (base b : Nat) (own : Nat → Nat) (mm' : MM) (w' : World) : Prop :=
  (∃ own' xs mv tv ev, MAt w' base b own' mm' xs mv tv ev ∧ ∀ k, k < w.heap.size → own' k = own k) ∧ Chg (fun k => own k ≠ 0 ∧ ¬ (5 ≤ own k ∧ own k % 3 = 2)) w w'
end

section
variable {w w' : World} {base b : Nat} {own own' : Nat → Nat} {mm : MM} {xs : List TX} {mv tv ev : Value}

set_option maxHeartbeats 1000000 in
theorem of_yes {tb cap : Nat} (h : MAt w base b own mm xs mv (.slice (some ⟨tb, 0, none⟩) xs.length cap) ev) {n : Nat} {x : TX} (hx : xs[n]? = some x) :
    Calls Tryz.prog 47 #[.pointer (some ⟨b, 0, none⟩), .int .i64 (n : Int)] w fun r w' => r = .returned (.pointer (some ⟨tb, n * 13, none⟩)) ∧ w' = w := by
  have c0 := h.wcell 0 _ rfl
  have c2 := h.wcell 2 _ rfl
  have hn : n < xs.length := (List.getElem?_eq_some_iff.1 hx).1
  clear h hx
  go_enter Tryz.func47, Tryz.ntmps47
  go_wp2_with fail
  go_ret
  exact ⟨rfl, rfl⟩

set_option maxHeartbeats 1000000 in
theorem of_no (h : MAt w base b own mm xs mv tv ev) {z : Int} (hz : z < 0 ∨ xs.length ≤ z) :
    Calls Tryz.prog 47 #[.pointer (some ⟨b, 0, none⟩), .int .i64 z] w fun r w' => r = .returned (.pointer none) ∧ w' = w := by
  obtain ⟨ao, cp, rfl⟩ := ownsRow_shape h.ths
  have c0 := h.wcell 0 _ rfl
  have c2 := h.wcell 2 _ rfl
  clear h
  by_cases h0 : z < 0
  · go_enter Tryz.func47, Tryz.ntmps47
    go_wp2_with fail
    go_ret
    exact ⟨rfl, rfl⟩
  · have h1 : (xs.length : Int) ≤ z := by omega
    clear hz
    go_enter Tryz.func47, Tryz.ntmps47
    go_wp2_with fail
    go_ret
    exact ⟨rfl, rfl⟩

set_option maxHeartbeats 1000000 in
theorem there_in (h : MAt w base b own mm xs mv tv ev) {a : Int} (ha : 0 ≤ a ∧ a < mm.mem.length) (hl : mm.mem.length ≤ 262144) :
    Calls Tryz.prog 174 #[.pointer (some ⟨b, 0, none⟩), .int .i64 a] w fun r w' => r = .returned (.int .i64 a) ∧ w' = w := by
  obtain ⟨ao, cp, rfl⟩ := ownsRow_shape h.mem
  have c1 := h.wcell 1 _ rfl
  have e1 : IntKind.i64.wrap (mm.mem.length : Int) = mm.mem.length := IntWalk.i64_in _ (by omega)
  have e2 : IntKind.i64.wrap a = a := IntWalk.i64_in _ (by omega)
  clear h
  go_enter Tryz.func174, Tryz.ntmps174
  go_wp2_with fail
  go_ret
  exact ⟨rfl, rfl⟩

/-- a panic of package tso: a thread ends -/
def tfault (k : Int) : PanicEntry := { v := .iface 134 (.int .u8 k), recovered := false }

set_option maxHeartbeats 1000000 in
theorem there_out (h : MAt w base b own mm xs mv tv ev) {a : Int} (ha : ¬ (0 ≤ a ∧ a < mm.mem.length)) (hl : mm.mem.length ≤ 262144) :
    Calls Tryz.prog 174 #[.pointer (some ⟨b, 0, none⟩), .int .i64 a] w fun r w' => r = .panicked [tfault 8] ∧ w' = w := by
  obtain ⟨ao, cp, rfl⟩ := ownsRow_shape h.mem
  have c1 := h.wcell 1 _ rfl
  have e1 : IntKind.i64.wrap (mm.mem.length : Int) = mm.mem.length := IntWalk.i64_in _ (by omega)
  clear h
  by_cases h0 : a < 0
  · clear ha
    go_enter Tryz.func174, Tryz.ntmps174
    go_wp2_with fail
    exact ⟨rfl, rfl, rfl⟩
  · have h1 : (mm.mem.length : Int) ≤ a := by omega
    clear ha
    go_enter Tryz.func174, Tryz.ntmps174
    go_wp2_with fail
    exact ⟨rfl, rfl, rfl⟩

theorem Chg.imp {S T : Nat → Prop} {a c : World} (h : Chg S a c) (hs : ∀ k, k < a.heap.size → S k → T k) : Chg T a c :=
  ⟨h.os, h.tape, h.output, h.size, fun k hk hn => h.block k hk fun hS => hn (hs k hk hS)⟩
theorem evInfo : (Tryz.prog.info? 154).map (fun i => (i.zero, i.size, i.bytes)) = some (some (.agg #[.int .i64 0, .int .u8 0, .int .i64 0, .int .i64 0]), 4, 32) := by kernel_rfl
theorem one_ev (x : Ev) : ∀ u ∈ encEv x, u.oneCell' = true := by
  intro u hu
  simp [encEv] at hu
  rcases hu with rfl | rfl | rfl | rfl <;> rfl

theorem run_equalIn_ptr {P : Program} {w : World} (d : Nat) (t e : TypeId) (tb o o' : Nat) (h : P.underlying t = some (.pointer e)) {i : TypeInfo} (hi : P.info? e = some i) (hs : i.size ≠ 0) :
    (Op.equalIn (d + 1) t (.pointer (some ⟨tb, o, none⟩)) (.pointer (some ⟨tb, o', none⟩))).run P w = .ok (decide (o = o')) w := by
  have h3 : ((⟨tb, o, none⟩ : Addr) == ⟨tb, o', none⟩) = decide (o = o') := by
    rw [Bool.eq_iff_iff]
    simp
  simp [Op.equalIn, run_underlying h, sizeOf, typeInfo, hi, hs, sameAddr, h3]
theorem thInfo : (Tryz.prog.info? 112).map (·.size) = some 13 := by kernel_rfl
theorem ptr_eq (w : World) (tb o o' : Nat) : Sem.run Tryz.prog (binOp BinOp.eql 132 (.pointer (some ⟨tb, o, none⟩)) (.pointer (some ⟨tb, o', none⟩))) w = .ok (.bool (decide (o = o'))) w := by
  obtain ⟨i, hi, hs⟩ : ∃ i, Tryz.prog.info? 112 = some i ∧ i.size = 13 := by
    have := thInfo
    cases hq : Tryz.prog.info? 112 with
    | none => rw [hq] at this; cases this
    | some i => rw [hq] at this; exact ⟨i, rfl, by simpa using this⟩
  have := run_equalIn_ptr (P := Tryz.prog) (w := w) 9999 132 112 tb o o' Tryz.underlying132 hi (by omega)
  simp [binOp, Op.equal, Op.maxDepth, this]

/-- what event leaves -/
def EvPost (base b : Nat) (own : Nat → Nat) (mm : MM) (xs : List TX) (mv tv : Value) (w w' : World) : Prop :=
  (∃ own' ev', MAt w' base b own' mm xs mv tv ev' ∧ ∀ k, k < w.heap.size → own' k = own k) ∧ Chg (fun k => own k = 1 ∨ own k = 4) w w'

set_option maxRecDepth 100000 in
set_option maxHeartbeats 2000000 in
theorem event_any {tb cap : Nat} (h : MAt w base b own mm xs mv (.slice (some ⟨tb, 0, none⟩) xs.length cap) ev) {n : Nat} {x : TX} (hx : xs[n]? = some x) (hlen : mm.evs.length < 1000000000) (h4 : xs.length ≤ 4) (k : Int) (a c : Int) :
    Calls Tryz.prog 49 #[.pointer (some ⟨b, 0, none⟩), .pointer (some ⟨tb, n * 13, none⟩), .int .u8 k, .int .i64 a, .int .i64 c] w fun r w' => r = .returned (.tuple #[]) ∧ EvPost base b own (mm.tell n k a c) xs mv (.slice (some ⟨tb, 0, none⟩) xs.length cap) w w' := by
  have c2 := h.wcell 2 _ rfl
  have c3 := h.wcell 3 _ rfl
  have hn : n < xs.length := (List.getElem?_eq_some_iff.1 hx).1
  have H := hidI h
  have HX := hidI hx
  have HL := hidI hlen
  obtain ⟨i0, hi, hz0, hz1, hz2⟩ := info_parts evInfo
  have HI := hidI hi
  have HZ0 := hidI hz0
  have HZ1 := hidI hz1
  have HZ2 := hidI hz2
  clear h hx hlen hi hz0 hz1 hz2
  go_enter Tryz.func49, Tryz.ntmps49
  go_wp2_with fail
  go_loopw [16] (fun i w' => ∃ q : Nat, q ≤ xs.length ∧ i = .int .i64 (q : Int) ∧ (q ≤ n ∧ w' = w ∨ n < q ∧ Hid (EvPost base b own (mm.tell n k a c) xs mv (.slice (some ⟨tb, 0, none⟩) xs.length cap) w w'))) (fun i _ => ((xs.length : Int) - intOf i).toNat)
  case atStart => exact ⟨0, by omega, rfl, .inl ⟨by omega, rfl⟩⟩
  case round =>
    obtain ⟨q, hq, rfl, hw⟩ := hrel
    by_cases hlt : q < xs.length
    · rcases hw with ⟨hqn, rfl⟩ | ⟨hqn, HE⟩
      · by_cases he : q = n
        · subst he
          have hp := fun w => (ptr_eq w tb (q * 13) (q * 13)).trans (by rw [decide_eq_true rfl])
          have hi := HI.out
          have hz0 := HZ0.out
          have hz1 := HZ1.out
          have hz2 := HZ2.out
          go_wp2_with (at_builtin; refine wpList_append_d _ rfl _ _ 58 rfl base 154 i0 _ 4 32 Tryz.underlying58 hi hz0 hz1 hz2 rfl (by decide) _ _ _ rfl (ownsRow_chg H.out.evs ((Chg.refl (fun _ => False) wr).alloc _) (fun _ _ => id)) ⟨wr.heap.size, 0, none⟩ 1 1 (encEv ⟨q, k, a, c⟩) rfl rfl ?c1 ?c2 ?c3 ?c4 ?c5 ?_)
          case c1 => first | exact news_at (block_new _ _) | exact fun j u h => h
          case c2 => exact one_ev _
          case c3 => have := HL.out; unfold maxLen; omega
          case c4 => have := HL.out; omega
          case c5 => have := H.out.base_le; simp; omega
          intro ao cp w1 hown hfrom hgrown
          have hc := Chg.grown (S := fun k => ev.ownBlock = some k) ((Chg.refl _ wr).alloc (.cells (encEv ⟨q, k, a, c⟩).toArray 154)) hgrown (fun k hk => .inl hk)
          have hb1 := chgblk hc H.out.blk (fun hk => by have h1 := H.out.evsT _ hk; rw [H.out.bT.2] at h1; exact absurd h1 (by decide))
          have f1 := free_of_block (o := 3) hb1
          have f2 : w1.cell? ⟨b, 3, none⟩ = some ev := cell_of_block hb1 rfl
          have HB := hidI hb1
          have HC := hidI hc
          have HO := hidI hown
          have HF := hidI hfrom
          clear hb1 hc hown hfrom hgrown hi hz0 hz1 hz2 hp
          go_wp2_with fail
          have hset := block_setCell (o := 3) (.slice ao (mm.evs.length + 1) cp) HB.out
          have hne : ∀ g, (Value.slice ao (mm.evs.length + 1) cp).ownBlock = some g → ev.ownBlock = some g ∨ wr.heap.size ≤ g := fun g hg => by
            rcases HF.out g hg with e | e
            · exact .inl e
            · exact .inr (by omega)
          have hchg : Chg (fun k => k = b ∨ ev.ownBlock = some k) wr (w1.setCell ⟨b, 3, none⟩ (.slice ao (mm.evs.length + 1) cp)) :=
            (Chg.then_ (S := fun k => k = b ∨ ev.ownBlock = some k) (Chg.refl _ wr) HC.out (fun k _ hk => .inr hk)).setCell (p := ⟨b, 3, none⟩) (.inl (.inl rfl)) _
          have hm := H.out.event (mm.evs ++ [⟨q, k, a, c⟩]) (.slice ao (mm.evs.length + 1) cp) hchg hset (by
            rw [List.length_append, flat_snoc]
            exact ownRow_keep HO.out fun g hg hlt => Below.heap_setCell _ _ _ _ (fun e => by
              rcases hne g hg with h1 | h1
              · have h2 := H.out.evsT _ h1; rw [e, H.out.bT.2] at h2; exact absurd h2 (by decide)
              · have := H.out.lt; simp only at e; omega)) hne
          have HE : EvPost base b own (mm.tell q k a c) xs mv (.slice (some ⟨tb, 0, none⟩) xs.length cap) wr (w1.setCell ⟨b, 3, none⟩ (.slice ao (mm.evs.length + 1) cp)) :=
            ⟨⟨_, _, hm, fun k hk => retag_old hk⟩, hchg.imp fun k _ hk => by
              rcases hk with rfl | hk
              · exact .inl H.out.bT.2
              · exact .inr (H.out.evsT k hk)⟩
          exact ⟨⟨q + 1, by omega, by go_num, .inr ⟨by omega, hidI HE⟩⟩, by simp [intOf]; omega⟩
        · have hp := fun w => (ptr_eq w tb (q * 13) (n * 13)).trans (by rw [decide_eq_false (show ¬ q * 13 = n * 13 by omega)])
          go_wp2_with fail
          exact ⟨⟨q + 1, by omega, by go_num, .inl ⟨by omega, trivial⟩⟩, by simp [intOf]; omega⟩
      · have hp := fun w => (ptr_eq w tb (q * 13) (n * 13)).trans (by rw [decide_eq_false (show ¬ q * 13 = n * 13 by omega)])
        obtain ⟨⟨own', ev', hm, ho⟩, hc⟩ := HE.out
        have d2 := hm.wcell 2 _ rfl
        clear hm ho hc
        go_wp2_with fail
        exact ⟨⟨q + 1, by omega, by go_num, .inr ⟨by omega, HE⟩⟩, by simp [intOf]; omega⟩
    · obtain rfl : q = xs.length := by omega
      rcases hw with ⟨hqn, rfl⟩ | ⟨hqn, HE⟩
      · omega
      · go_wp2_with fail
        go_end0
        exact ⟨rfl, HE.out⟩
end

section
/-- what Do answers: the number, the code -/
def doV (c a b : Int) : Int := (calcS c a b).getD 0
def doE (c a b : Int) : Int := if (calcS c a b).isSome = true then 0 else if c = 4 ∨ c = 5 then 4 else 1
theorem doV_some {c a b v : Int} (h : calcS c a b = some v) : doV c a b = v := by unfold doV; rw [h]; rfl
theorem doE_some {c a b v : Int} (h : calcS c a b = some v) : doE c a b = 0 := by unfold doE; rw [h]; rfl
theorem doV_none {c a b : Int} (h : calcS c a b = none) : doV c a b = 0 := by unfold doV; rw [h]; rfl
theorem doE_none {c a b : Int} (h : calcS c a b = none) : doE c a b = if c = 4 ∨ c = 5 then 4 else 1 := by unfold doE; rw [h]; rfl
def DoPost (c a b : Int) (w : World) (r : Ending) (w' : World) : Prop := r = .returned (.tuple #[.int .i64 (doV c a b), .int .i64 (doE c a b)]) ∧ w' = w
theorem DoPost.some {c a b v : Int} {w : World} {r : Ending} {w' : World} (h : calcS c a b = some v) (hr : r = .returned (.tuple #[.int .i64 v, .int .i64 0])) (hw : w' = w) : DoPost c a b w r w' := by
  refine ⟨?_, hw⟩
  rw [doV_some h, doE_some h]
  exact hr
theorem DoPost.none {c a b : Int} {w : World} {r : Ending} {w' : World} (h : calcS c a b = none) (hr : r = .returned (.tuple #[.int .i64 0, .int .i64 (if c = 4 ∨ c = 5 then 4 else 1)])) (hw : w' = w) : DoPost c a b w r w' := by
  refine ⟨?_, hw⟩
  rw [doV_none h, doE_none h]
  exact hr

theorem truth_any (w : World) (x : Bool) : Calls Tryz.prog 256 #[.bool x] w fun r w' => r = .returned (.int .i64 (truthI x)) ∧ w' = w := by
  cases x with
  | true =>
    go_enter Tryz.func256, Tryz.ntmps256
    go_wp2_with fail
    go_ret
    exact ⟨rfl, rfl⟩
  | false =>
    go_enter Tryz.func256, Tryz.ntmps256
    go_wp2_with fail
    go_ret
    exact ⟨rfl, rfl⟩

set_option maxHeartbeats 1000000 in
theorem do_1 (w : World) (a b : Int) : Calls Tryz.prog 252 #[.int .u8 1, .int .i64 a, .int .i64 b] w (DoPost 1 a b w) := by
  go_enter Tryz.func252, Tryz.ntmps252
  go_wp2_with fail
  go_ret2
  exact .some rfl rfl rfl

set_option maxHeartbeats 1000000 in
theorem do_2 (w : World) (a b : Int) : Calls Tryz.prog 252 #[.int .u8 2, .int .i64 a, .int .i64 b] w (DoPost 2 a b w) := by
  go_enter Tryz.func252, Tryz.ntmps252
  go_wp2_with fail
  go_ret2
  exact .some rfl rfl rfl

set_option maxHeartbeats 1000000 in
theorem do_3 (w : World) (a b : Int) : Calls Tryz.prog 252 #[.int .u8 3, .int .i64 a, .int .i64 b] w (DoPost 3 a b w) := by
  go_enter Tryz.func252, Tryz.ntmps252
  go_wp2_with fail
  go_ret2
  exact .some rfl rfl rfl

set_option maxHeartbeats 1000000 in
theorem do_6 (w : World) (a b : Int) : Calls Tryz.prog 252 #[.int .u8 6, .int .i64 a, .int .i64 b] w (DoPost 6 a b w) := by
  go_enter Tryz.func252, Tryz.ntmps252
  go_wp2_with fail
  go_ret2
  exact .some rfl rfl rfl

set_option maxHeartbeats 1000000 in
theorem do_7 (w : World) (a b : Int) : Calls Tryz.prog 252 #[.int .u8 7, .int .i64 a, .int .i64 b] w (DoPost 7 a b w) := by
  go_enter Tryz.func252, Tryz.ntmps252
  go_wp2_with fail
  go_ret2
  exact .some rfl rfl rfl

set_option maxHeartbeats 1000000 in
theorem do_8 (w : World) (a b : Int) : Calls Tryz.prog 252 #[.int .u8 8, .int .i64 a, .int .i64 b] w (DoPost 8 a b w) := by
  go_enter Tryz.func252, Tryz.ntmps252
  go_wp2_with fail
  go_ret2
  exact .some rfl rfl rfl

set_option maxHeartbeats 1000000 in
theorem do_4 (w : World) (a b : Int) (h : b ≠ 0) : Calls Tryz.prog 252 #[.int .u8 4, .int .i64 a, .int .i64 b] w (DoPost 4 a b w) := by
  have hb : (b == 0) = false := by rw [beq_eq_false_iff_ne]; exact h
  go_enter Tryz.func252, Tryz.ntmps252
  go_wp2_with fail
  go_ret2
  refine .some ?_ rfl rfl
  unfold calcS
  simp [h, w64, IntWalk.i64_left]

set_option maxHeartbeats 1000000 in
theorem do_4z (w : World) (a b : Int) (h : b = 0) : Calls Tryz.prog 252 #[.int .u8 4, .int .i64 a, .int .i64 b] w (DoPost 4 a b w) := by
  subst h
  go_enter Tryz.func252, Tryz.ntmps252
  go_wp2_with fail
  go_ret2
  exact .none rfl rfl rfl

set_option maxHeartbeats 1000000 in
theorem do_5 (w : World) (a b : Int) (h : b ≠ 0) : Calls Tryz.prog 252 #[.int .u8 5, .int .i64 a, .int .i64 b] w (DoPost 5 a b w) := by
  have hb : (b == 0) = false := by rw [beq_eq_false_iff_ne]; exact h
  go_enter Tryz.func252, Tryz.ntmps252
  go_wp2_with fail
  go_ret2
  refine .some ?_ rfl rfl
  unfold calcS
  simp [h, w64, IntWalk.i64_left]

set_option maxHeartbeats 1000000 in
theorem do_5z (w : World) (a b : Int) (h : b = 0) : Calls Tryz.prog 252 #[.int .u8 5, .int .i64 a, .int .i64 b] w (DoPost 5 a b w) := by
  subst h
  go_enter Tryz.func252, Tryz.ntmps252
  go_wp2_with fail
  go_ret2
  exact .none rfl rfl rfl

set_option maxHeartbeats 1000000 in
theorem do_9 (w : World) (a b : Int) : Calls Tryz.prog 252 #[.int .u8 9, .int .i64 a, .int .i64 b] w (DoPost 9 a b w) := by
  go_enter Tryz.func252, Tryz.ntmps252
  go_wp2_with fail
  go_ret2
  exact .some rfl rfl rfl

set_option maxHeartbeats 1000000 in
theorem do_10 (w : World) (a b : Int) : Calls Tryz.prog 252 #[.int .u8 10, .int .i64 a, .int .i64 b] w (DoPost 10 a b w) := by
  go_enter Tryz.func252, Tryz.ntmps252
  go_wp2_with fail
  go_ret2
  exact .some rfl rfl rfl

set_option maxHeartbeats 1000000 in
theorem do_11 (w : World) (a b : Int) : Calls Tryz.prog 252 #[.int .u8 11, .int .i64 a, .int .i64 b] w (DoPost 11 a b w) := by
  go_enter Tryz.func252, Tryz.ntmps252
  go_wp2_with fail
  refine (truth_any w _).mono ?_
  rintro r w1 ⟨rfl, rfl⟩
  go_wp2_with fail
  go_ret2
  exact .some rfl rfl rfl

set_option maxHeartbeats 1000000 in
theorem do_12 (w : World) (a b : Int) : Calls Tryz.prog 252 #[.int .u8 12, .int .i64 a, .int .i64 b] w (DoPost 12 a b w) := by
  go_enter Tryz.func252, Tryz.ntmps252
  go_wp2_with fail
  refine (truth_any w _).mono ?_
  rintro r w1 ⟨rfl, rfl⟩
  go_wp2_with fail
  go_ret2
  exact .some rfl rfl rfl

set_option maxHeartbeats 1000000 in
theorem do_13 (w : World) (a b : Int) : Calls Tryz.prog 252 #[.int .u8 13, .int .i64 a, .int .i64 b] w (DoPost 13 a b w) := by
  go_enter Tryz.func252, Tryz.ntmps252
  go_wp2_with fail
  refine (truth_any w _).mono ?_
  rintro r w1 ⟨rfl, rfl⟩
  go_wp2_with fail
  go_ret2
  exact .some rfl rfl rfl

set_option maxHeartbeats 1000000 in
theorem do_14 (w : World) (a b : Int) : Calls Tryz.prog 252 #[.int .u8 14, .int .i64 a, .int .i64 b] w (DoPost 14 a b w) := by
  go_enter Tryz.func252, Tryz.ntmps252
  go_wp2_with fail
  refine (truth_any w _).mono ?_
  rintro r w1 ⟨rfl, rfl⟩
  go_wp2_with fail
  go_ret2
  exact .some rfl rfl rfl

set_option maxHeartbeats 1000000 in
theorem do_no (w : World) (c a b : Int) (h : ¬ (1 ≤ c ∧ c ≤ 14)) : Calls Tryz.prog 252 #[.int .u8 c, .int .i64 a, .int .i64 b] w (DoPost c a b w) := by
  have k1 : (c == 1) = false := by rw [beq_eq_false_iff_ne]; omega
  have k2 : (c == 2) = false := by rw [beq_eq_false_iff_ne]; omega
  have k3 : (c == 3) = false := by rw [beq_eq_false_iff_ne]; omega
  have k4 : (c == 4) = false := by rw [beq_eq_false_iff_ne]; omega
  have k5 : (c == 5) = false := by rw [beq_eq_false_iff_ne]; omega
  have k6 : (c == 6) = false := by rw [beq_eq_false_iff_ne]; omega
  have k7 : (c == 7) = false := by rw [beq_eq_false_iff_ne]; omega
  have k8 : (c == 8) = false := by rw [beq_eq_false_iff_ne]; omega
  have k9 : (c == 9) = false := by rw [beq_eq_false_iff_ne]; omega
  have k10 : (c == 10) = false := by rw [beq_eq_false_iff_ne]; omega
  have k11 : (c == 11) = false := by rw [beq_eq_false_iff_ne]; omega
  have k12 : (c == 12) = false := by rw [beq_eq_false_iff_ne]; omega
  have k13 : (c == 13) = false := by rw [beq_eq_false_iff_ne]; omega
  have k14 : (c == 14) = false := by rw [beq_eq_false_iff_ne]; omega
  have hn : calcS c a b = none := by
    unfold calcS
    rw [if_neg (by omega), if_neg (by omega), if_neg (by omega), if_neg (by omega), if_neg (by omega), if_neg (by omega), if_neg (by omega), if_neg (by omega), if_neg (by omega), if_neg (by omega), if_neg (by omega), if_neg (by omega), if_neg (by omega), if_neg (by omega)]
  clear h
  go_enter Tryz.func252, Tryz.ntmps252
  go_wp2_with fail
  go_ret2
  exact .none hn (by rw [if_neg (by rw [beq_eq_false_iff_ne] at k4 k5; omega)]; rfl) rfl

theorem do_any (w : World) (c a b : Int) : Calls Tryz.prog 252 #[.int .u8 c, .int .i64 a, .int .i64 b] w (DoPost c a b w) := by
  by_cases h : 1 ≤ c ∧ c ≤ 14
  · rcases (by omega : c = 1 ∨ c = 2 ∨ c = 3 ∨ c = 4 ∨ c = 5 ∨ c = 6 ∨ c = 7 ∨ c = 8 ∨ c = 9 ∨ c = 10 ∨ c = 11 ∨ c = 12 ∨ c = 13 ∨ c = 14) with rfl | rfl | rfl | rfl | rfl | rfl | rfl | rfl | rfl | rfl | rfl | rfl | rfl | rfl
    · exact do_1 w a b
    · exact do_2 w a b
    · exact do_3 w a b
    · by_cases hb : b = 0
      · exact do_4z w a b hb
      · exact do_4 w a b hb
    · by_cases hb : b = 0
      · exact do_5z w a b hb
      · exact do_5 w a b hb
    · exact do_6 w a b
    · exact do_7 w a b
    · exact do_8 w a b
    · exact do_9 w a b
    · exact do_10 w a b
    · exact do_11 w a b
    · exact do_12 w a b
    · exact do_13 w a b
    · exact do_14 w a b
  · exact do_no w c a b h
end

section
variable {w w' : World} {base b : Nat} {own own' : Nat → Nat} {mm : MM} {xs : List TX} {mv tv ev : Value}

/-- a thread that has not begun -/
def newX (code : List OpD) (cv : Value) (rb : Nat) : TX := ⟨MT.new code, cv, rb, .slice none 0 0⟩
/-- whose a block is behind it -/
def pushT (own : Nat → Nat) (tv' cv : Value) (code : List OpD) (rb n m : Nat) (k : Nat) : Nat :=
  if k < m then own k else if tv'.ownBlock = some k then 3 else if code ≠ [] ∧ cv.ownBlock = some k then 5 + 3 * n else if k = rb then 6 + 3 * n else 0
theorem pushT_old {tv' cv : Value} {code : List OpD} {rb n m k : Nat} (h : k < m) : pushT own tv' cv code rb n m k = own k := if_pos h

theorem rdt_lt {sz : Nat} {v : Value} {l : List OpD} {g : Nat} (h : RdT encOp w sz v l) (hn : l ≠ []) (hg : v.ownBlock = some g) : g < w.heap.size := by
  obtain ⟨h1, ao, cap, h2, h3, h4⟩ := h
  obtain ⟨b, off, rfl, hb, _⟩ := h4 (List.length_pos_iff.2 hn)
  rw [h2] at hg
  simp only [Value.ownBlock, Option.some.injEq] at hg
  exact hg ▸ hb

theorem MAt.push (h : MAt w base b own mm xs mv tv ev) (hc : Chg (fun k => tv.ownBlock = some k) w w') {code : List OpD} {cv tv' : Value} {rb f : Nat} {c : Array Value}
    (hcode : RdT encOp w' 6 cv code) (hcn : ∀ g, code ≠ [] → cv.ownBlock = some g → w.heap.size ≤ g) (hring : Ring w' rb [] c f) (hrn : w.heap.size ≤ rb)
    (htv : w'.ownsRow base 112 13 tv' (xs.length + 1) ((xs ++ [newX code cv rb]).flatMap encX)) (htn : ∀ g, tv'.ownBlock = some g → tv.ownBlock = some g ∨ w.heap.size ≤ g)
    (hd1 : ∀ g, code ≠ [] → cv.ownBlock = some g → g ≠ rb ∧ tv'.ownBlock ≠ some g) (hd2 : tv'.ownBlock ≠ some rb) :
    MAt (w'.setCell ⟨b, 2, none⟩ tv') base b (pushT own tv' cv code rb xs.length w.heap.size) { mm with ths := mm.ths ++ [MT.new code] } (xs ++ [newX code cv rb]) mv tv' ev := by
  have hbl := h.lt
  have hk : ∀ g, own g ≠ 3 → own g ≠ 1 → g < w.heap.size → (w'.setCell ⟨b, 2, none⟩ tv').heap[g]? = w.heap[g]? := fun g h3 h1 hl => by
    rw [Below.heap_setCell _ _ _ _ (fun e => h1 (by rw [e]; exact h.bT.2))]
    exact hc.block g hl fun e => h3 (h.thsT g e)
  have hk2 : ∀ g, w.heap.size ≤ g → (w'.setCell ⟨b, 2, none⟩ tv').heap[g]? = w'.heap[g]? := fun g hl => Below.heap_setCell _ _ _ _ (fun e => by simp only at e; omega)
  have hb1 := chgblk hc h.blk (fun hk => by have h1 := h.thsT _ hk; rw [h.bT.2] at h1; exact absurd h1 (by decide))
  have hset := block_setCell (o := 2) tv' hb1
  have hsz := hc.size
  have hbs := h.base_le
  have ho : ∀ k, k < w.heap.size → pushT own tv' cv code rb xs.length w.heap.size k = own k := fun k hk => pushT_old hk
  have hlen : (xs ++ [newX code cv rb]).length = xs.length + 1 := by simp
  have htb : ∀ g, tv'.ownBlock = some g → g ≠ b := fun g hg e => by
    rcases htn g hg with e' | e'
    · have := h.thsT g e'; rw [e, h.bT.2] at this; omega
    · omega
  refine ⟨hset, ⟨h.bT.1, by rw [ho _ hbl]; exact h.bT.2⟩, ownRow_keep h.mem fun g hg hl => hk g (by rw [h.memT g hg]; omega) (by rw [h.memT g hg]; omega) hl, fun g hg => by rw [ho _ (rowLt h.mem hg).2]; exact h.memT g hg,
    by rw [hlen]; exact ownRow_keep htv fun g hg _ => Below.heap_setCell _ _ _ _ (htb g hg), fun g hg => ?_,
    ownRow_keep h.evs fun g hg hl => hk g (by rw [h.evsT g hg]; omega) (by rw [h.evsT g hg]; omega) hl, fun g hg => by rw [ho _ (rowLt h.evs hg).2]; exact h.evsT g hg,
    by simp [h.same, newX], fun i x hx => ?_, fun k hk' => ?_⟩
  · by_cases e : g < w.heap.size
    · rw [ho _ e]
      rcases htn g hg with e' | e'
      · exact h.thsT g e'
      · omega
    · unfold pushT
      rw [if_neg e, if_pos hg]
  · rcases Nat.lt_or_ge i xs.length with hi | hi
    · rw [List.getElem?_append_left hi] at hx
      exact (h.th i x hx).keep ho fun g hg hl => hk g (by omega) (by omega) hl
    · have hi' : i = xs.length := by have := (List.getElem?_eq_some_iff.1 hx).1; rw [hlen] at this; omega
      subst hi'
      simp at hx
      subst hx
      refine ⟨hcode.keepN fun g hn hg _ => hk2 g (hcn g hn hg), fun g hn hg => ⟨by have := hcn g hn hg; omega, ?_⟩, ⟨c, f, hring.keep (hk2 _ hrn)⟩, ⟨by show base ≤ rb; omega, ?_⟩, World.ownsRow_nil _ _ _ _, fun g hg => by cases hg⟩
      · have h1 := hcn g hn hg
        have h2 := hd1 g hn hg
        unfold pushT
        rw [if_neg (by omega), if_neg h2.2, if_pos ⟨hn, hg⟩]
      · have h2 : ¬ (code ≠ [] ∧ cv.ownBlock = some rb) := fun e => (hd1 rb e.1 e.2).1 rfl
        show pushT own tv' cv code rb xs.length w.heap.size rb = _
        unfold pushT
        rw [if_neg (by omega), if_neg hd2, if_neg h2, if_pos rfl]
  · rw [heapSize_setCell] at hk'
    unfold pushT
    rw [if_neg (by omega), if_neg (fun e => by have := (rowLt htv e).2; omega), if_neg (fun e => by have := rdt_lt hcode e.1 e.2; omega), if_neg (fun e => by have := hring.lt; omega)]
end

end Go.Proofs.YthmmbldhbdnfpaaGreatDoor

/- How a machine of package tso lies, and what changes of its parts do. -/
import Derived.Test.YtopdcjimpdalpaaGreatTsoSpec
import Derived.Test.YtopdcjimpdalpaaGreatBookR
import Derived.Test.YtopdcjimpdalpaaGreatStep
namespace Go.Proofs.YtopdcjimpdalpaaGreat
open Go.RowKit
set_option linter.unusedVariables false
set_option linter.unusedSimpArgs false

/-- api.Event: Thread, Kind, A, B -/
def encEv (x : Ev) : List Value := [.int .i64 x.th, .int .u8 x.k, .int .i64 x.a, .int .i64 x.b]
theorem encEv_len : ∀ a, (encEv a).length = 4 := fun _ => rfl
def encI (z : Int) : List Value := [.int .i64 z]
theorem encI_len : ∀ a, (encI a).length = 1 := fun _ => rfl

/-- a thread, and where its parts lie: its code, its buffer, what it told -/
structure TX where
  th : MT
  cv : Value
  bb : Nat
  ov : Value

/-- a thread as cells: code, reg, at, wait, out, end -/
def encX (x : TX) : List Value :=
  [x.cv, .int .i64 (x.th.reg 0), .int .i64 (x.th.reg 1), .int .i64 (x.th.reg 2), .int .i64 (x.th.reg 3), .int .i64 (x.th.reg 4), .int .i64 (x.th.reg 5), .int .i64 (x.th.reg 6), .int .i64 (x.th.reg 7),
   .int .i64 x.th.at_, .pointer (some ⟨x.bb, 0, none⟩), x.ov, .int .u8 x.th.fin]
theorem encX_len : ∀ x, (encX x).length = 13 := fun _ => rfl
theorem encX_reg (x : TX) : ∀ r, r < 8 → (encX x)[1 + r]? = some (.int .i64 (x.th.reg r))
  | 0, _ => rfl | 1, _ => rfl | 2, _ => rfl | 3, _ => rfl | 4, _ => rfl | 5, _ => rfl | 6, _ => rfl | 7, _ => rfl
  | n + 8, h => absurd h (by omega)
theorem encX_setReg (x : TX) (v : Int) : ∀ r, r < 8 → encX { x with th := { x.th with reg := upd x.th.reg r v } } = (encX x).set (1 + r) (.int .i64 v)
  | 0, _ => rfl | 1, _ => rfl | 2, _ => rfl | 3, _ => rfl | 4, _ => rfl | 5, _ => rfl | 6, _ => rfl | 7, _ => rfl
  | n + 8, h => absurd h (by omega)

/-- a thread's parts: blocks of their own; own tells whose a block is -/
structure TsAt (w : World) (base : Nat) (own : Nat → Nat) (i : Nat) (x : TX) : Prop where
  code : RdT encOp w 6 x.cv x.th.code
  codeT : ∀ g, x.th.code ≠ [] → x.cv.ownBlock = some g → base ≤ g ∧ own g = 5 + 3 * i
  ring : ∃ c f, Ring w x.bb x.th.wait c f
  ringT : base ≤ x.bb ∧ own x.bb = 6 + 3 * i
  out : w.ownsRow base 2 1 x.ov x.th.out.length (x.th.out.flatMap encI)
  outT : ∀ g, x.ov.ownBlock = some g → own g = 7 + 3 * i

structure MAt (w : World) (base b : Nat) (own : Nat → Nat) (mm : MM) (xs : List TX) (mv tv ev : Value) : Prop where
  blk : w.heap[b]? = some (.cells #[.bool true, mv, tv, ev] 179 (0, 0))
  bT : base ≤ b ∧ own b = 1
  mem : w.ownsRow base 2 1 mv mm.mem.length (mm.mem.flatMap encI)
  memT : ∀ g, mv.ownBlock = some g → own g = 2
  ths : w.ownsRow base 184 13 tv xs.length (xs.flatMap encX)
  thsT : ∀ g, tv.ownBlock = some g → own g = 3
  evs : w.ownsRow base 127 4 ev mm.evs.length (mm.evs.flatMap encEv)
  evsT : ∀ g, ev.ownBlock = some g → own g = 4
  same : mm.ths = xs.map TX.th
  th : ∀ (i : Nat) x, xs[i]? = some x → TsAt w base own i x
  fresh : ∀ k, w.heap.size ≤ k → own k = 0

theorem RdT.keepN {α : Type} {enc : α → List Value} {w w' : World} {sz : Nat} {v : Value} {l : List α} (h : RdT enc w sz v l) (hk : ∀ g, l ≠ [] → v.ownBlock = some g → g < w.heap.size → w'.heap[g]? = w.heap[g]?) : RdT enc w' sz v l := by
  by_cases e : l = []
  · subst e
    obtain ⟨h1, ao, cap, h2, h3, h4⟩ := h
    exact ⟨h1, ao, cap, h2, h3, fun hn => absurd hn (by simp)⟩
  · exact h.keep fun g hg hl => hk g e hg hl

theorem TsAt.keep {w w' : World} {base : Nat} {own own' : Nat → Nat} {i : Nat} {x : TX} (h : TsAt w base own i x) (ho : ∀ k, k < w.heap.size → own' k = own k) 
    (hk : ∀ g, own g = 5 + 3 * i ∨ own g = 6 + 3 * i ∨ own g = 7 + 3 * i → g < w.heap.size → w'.heap[g]? = w.heap[g]?) : TsAt w' base own' i x := by
  obtain ⟨c, f, hr⟩ := h.ring
  refine ⟨h.code.keepN fun g hn hg hl => hk g (.inl (h.codeT g hn hg).2) hl, fun g hn hg => ?_, ⟨c, f, hr.keep (hk _ (.inr (.inl h.ringT.2)) hr.lt)⟩, ⟨h.ringT.1, by rw [ho _ hr.lt]; exact h.ringT.2⟩,
    ownRow_keep h.out fun g hg hl => hk g (.inr (.inr (h.outT g hg))) hl, fun g hg => by rw [ho _ (rowLt h.out hg).2]; exact h.outT g hg⟩
  refine ⟨(h.codeT g hn hg).1, ?_⟩
  obtain ⟨h1, ao, cap, h2, h3, h4⟩ := h.code
  obtain ⟨b, off, rfl, hb, _⟩ := h4 (List.length_pos_iff.2 hn)
  rw [h2] at hg
  simp only [Value.ownBlock, Option.some.injEq] at hg
  subst hg
  rw [ho _ hb]
  exact (h.codeT b hn (by rw [h2]; rfl)).2

variable {w w' : World} {base b : Nat} {own own' : Nat → Nat} {mm : MM} {xs : List TX} {mv tv ev : Value}

theorem MAt.lt (h : MAt w base b own mm xs mv tv ev) : b < w.heap.size := lt_of_block h.blk
theorem MAt.base_le (h : MAt w base b own mm xs mv tv ev) : base ≤ w.heap.size := Nat.le_trans h.bT.1 (Nat.le_of_lt h.lt)

theorem MAt.keep (h : MAt w base b own mm xs mv tv ev) (hs : w.heap.size ≤ w'.heap.size) (hk : ∀ g, own g ≠ 0 → g < w.heap.size → w'.heap[g]? = w.heap[g]?) : MAt w' base b own mm xs mv tv ev :=
  ⟨(hk b (by rw [h.bT.2]; decide) h.lt).trans h.blk, h.bT, ownRow_keep h.mem fun g hg hl => hk g (by rw [h.memT g hg]; decide) hl, h.memT,
    ownRow_keep h.ths fun g hg hl => hk g (by rw [h.thsT g hg]; decide) hl, h.thsT,
    ownRow_keep h.evs fun g hg hl => hk g (by rw [h.evsT g hg]; decide) hl, h.evsT, h.same,
    fun i x hx => (h.th i x hx).keep (fun _ _ => rfl) fun g hg hl => hk g (by omega) hl, fun k hk' => h.fresh k (by omega)⟩
theorem MAt.below (h : MAt w base b own mm xs mv tv ev) (hb : Below w.heap.size w w') : MAt w' base b own mm xs mv tv ev := h.keep hb.size fun g _ hl => hb.block g hl
theorem MAt.drewN (h : MAt w base b own mm xs mv tv ev) (n : Nat) : MAt (w.drewN n) base b own mm xs mv tv ev := h.keep (Nat.le_refl _) fun g _ hl => rfl
theorem MAt.drew (h : MAt w base b own mm xs mv tv ev) : MAt w.drew base b own mm xs mv tv ev := h.keep (Nat.le_refl _) fun g _ hl => rfl
/-- a change of blocks that are none of the machine's -/
theorem MAt.chg {S : Nat → Prop} (h : MAt w base b own mm xs mv tv ev) (hc : Chg S w w') (hs : ∀ k, own k ≠ 0 → ¬ S k) : MAt w' base b own mm xs mv tv ev := h.keep hc.size fun g hg hl => hc.block g hl (hs g hg)
theorem heapSize_setCell (w : World) (p : Addr) (u : Value) : (w.setCell p u).heap.size = w.heap.size := by simp [World.setCell]

theorem set_at {α : Type} {l : List α} {n : Nat} {x : α} (h : l[n]? = some x) (y : α) : (l.set n y)[n]? = some y := by
  rw [List.getElem?_set_self (List.getElem?_eq_some_iff.1 h).1]
theorem MAt.th_at (h : MAt w base b own mm xs mv tv ev) {n : Nat} {x : TX} (hx : xs[n]? = some x) : mm.ths[n]? = some x.th := by rw [h.same]; simp [hx]

/-- the threads' block -/
theorem MAt.tslice (h : MAt w base b own mm xs mv tv ev) {n : Nat} {x : TX} (hx : xs[n]? = some x) : ∃ tb cap, tv = .slice (some ⟨tb, 0, none⟩) xs.length cap ∧ own tb = 3 := by
  have hl := (List.getElem?_eq_some_iff.1 hx).1
  obtain ⟨ao, cap, rfl⟩ := ownsRow_shape h.ths
  obtain ⟨tb, cur, rfl, _⟩ := ownsRow_some h.ths (by omega)
  exact ⟨tb, cap, rfl, h.thsT tb rfl⟩
/-- one cell of a thread -/
theorem MAt.cell {tb cap : Nat} (h : MAt w base b own mm xs mv (.slice (some ⟨tb, 0, none⟩) xs.length cap) ev) {n : Nat} {x : TX} (hx : xs[n]? = some x) (j : Nat) (u : Value) (hu : (encX x)[j]? = some u) : w.cell? ⟨tb, n * 13 + j, none⟩ = some u := by
  obtain ⟨b', off, e1, hb, hc⟩ := RdT.at (enc := encX) encX_len (Rd.of_own h.ths) hx
  simp only [Option.some.injEq, Addr.mk.injEq, and_true] at e1
  obtain ⟨rfl, rfl⟩ := e1
  have := hc j u hu
  rwa [Nat.zero_add] at this
theorem MAt.free {tb cap : Nat} (h : MAt w base b own mm xs mv (.slice (some ⟨tb, 0, none⟩) xs.length cap) ev) (hn : 0 < xs.length) (o : Nat) : w.frozen? ⟨tb, o, none⟩ = false := by
  obtain ⟨tb', cur, e1, _, hg, _⟩ := ownsRow_some h.ths hn
  simp only [Option.some.injEq, Addr.mk.injEq, and_true] at e1
  subst e1
  exact free_of_block hg
theorem MAt.wcell (h : MAt w base b own mm xs mv tv ev) (j : Nat) (u : Value) (hu : (#[Value.bool true, mv, tv, ev])[j]? = some u) : w.cell? ⟨b, j, none⟩ = some u := cell_of_block h.blk hu
theorem MAt.wfree (h : MAt w base b own mm xs mv tv ev) (o : Nat) : w.frozen? ⟨b, o, none⟩ = false := free_of_block h.blk

/-- one cell of a thread is written: its parts stay where they are -/
theorem MAt.poke {tb cap : Nat} (h : MAt w base b own mm xs mv (.slice (some ⟨tb, 0, none⟩) xs.length cap) ev) {n : Nat} {x : TX} (hx : xs[n]? = some x) (y : TX) (j : Nat) (u : Value) (hj : j < 13) (he : encX y = (encX x).set j u)
    (h1 : y.cv = x.cv) (h2 : y.th.code = x.th.code) (h3 : y.bb = x.bb) (h4 : y.th.wait = x.th.wait) (h5 : y.ov = x.ov) (h6 : y.th.out = x.th.out) :
    MAt (w.setCell ⟨tb, n * 13 + j, none⟩ u) base b own (mm.put n y.th) (xs.set n y) mv (.slice (some ⟨tb, 0, none⟩) (xs.set n y).length cap) ev := by
  have hk : ∀ g, own g ≠ 3 → (w.setCell ⟨tb, n * 13 + j, none⟩ u).heap[g]? = w.heap[g]? := fun g hg => Below.heap_setCell _ _ _ _ fun e => hg (by rw [e]; exact h.thsT tb rfl)
  have hr := (rowSet encX_len h.ths hx he hj).2
  refine ⟨by rw [List.length_set]; exact (hk b (by rw [h.bT.2]; decide)).trans h.blk, h.bT, ownRow_keep h.mem fun g hg _ => hk g (by rw [h.memT g hg]; decide), h.memT, by rw [List.length_set]; exact hr, h.thsT, ownRow_keep h.evs fun g hg _ => hk g (by rw [h.evsT g hg]; decide), h.evsT,
    by rw [MM.put, List.map_set, h.same], fun i z hz => ?_, fun k hk' => h.fresh k (by rw [heapSize_setCell] at hk'; exact hk')⟩
  rw [List.getElem?_set] at hz
  split at hz
  · rename_i e
    subst e
    split at hz
    · cases hz
      have ht := (h.th n x hx).keep (w' := w.setCell ⟨tb, n * 13 + j, none⟩ u) (own' := own) (fun _ _ => rfl) fun g hg _ => hk g (by omega)
      exact ⟨by rw [h1, h2]; exact ht.code, by rw [h1, h2]; exact ht.codeT, by rw [h3, h4]; exact ht.ring, by rw [h3]; exact ht.ringT, by rw [h5, h6]; exact ht.out, by rw [h5]; exact ht.outT⟩
    · cases hz
  · exact (h.th i z hz).keep (fun _ _ => rfl) fun g hg _ => hk g (by omega)

/-- the ring of a thread has changed -/
theorem MAt.ringed (h : MAt w base b own mm xs mv tv ev) {n : Nat} {x : TX} (hx : xs[n]? = some x) (hc : Chg (fun k => k = x.bb) w w') {q : List (Int × Int)} {c : Array Value} {f : Nat} (hr : Ring w' x.bb q c f) :
    MAt w' base b own (mm.put n { x.th with wait := q }) (xs.set n { x with th := { x.th with wait := q } }) mv tv ev := by
  have hb := (h.th n x hx).ringT
  have hk : ∀ g, own g ≠ 6 + 3 * n → g < w.heap.size → w'.heap[g]? = w.heap[g]? := fun g hg hl => hc.block g hl fun e => hg (by rw [e]; exact hb.2)
  have hs : (xs.set n { x with th := { x.th with wait := q } }).flatMap encX = xs.flatMap encX := by
    refine List.ext_getElem? fun k => ?_
    have := flatSet (j := 0) (u := x.cv) encX_len xs hx (y := { x with th := { x.th with wait := q } }) rfl (by decide)
    rw [this, List.getElem?_set]
    split
    · rename_i e
      subst e
      have h9 := flat_at encX_len xs hx 0 x.cv rfl
      rw [h9, if_pos (List.getElem?_eq_some_iff.1 h9).1]
    · rfl
  refine ⟨(hk b (by rw [h.bT.2]; omega) h.lt).trans h.blk, h.bT, ownRow_keep h.mem fun g hg hl => hk g (by rw [h.memT g hg]; omega) hl, h.memT, by rw [List.length_set, hs]; exact ownRow_keep h.ths fun g hg hl => hk g (by rw [h.thsT g hg]; omega) hl, h.thsT,
    ownRow_keep h.evs fun g hg hl => hk g (by rw [h.evsT g hg]; omega) hl, h.evsT, by rw [MM.put, List.map_set, h.same], fun i z hz => ?_, fun k hk' => h.fresh k (by have := hc.size; omega)⟩
  rw [List.getElem?_set] at hz
  split at hz
  · rename_i e
    subst e
    split at hz
    · cases hz
      have ht := h.th n x hx
      refine ⟨ht.code.keepN fun g hn hg hl => hk g (by rw [(ht.codeT g hn hg).2]; omega) hl, ht.codeT, ⟨c, f, hr⟩, hb, ownRow_keep ht.out fun g hg hl => hk g (by rw [ht.outT g hg]; omega) hl, ht.outT⟩
    · cases hz
  · rename_i hne
    exact (h.th i z hz).keep (fun _ _ => rfl) fun g hg hl => hk g (by omega) hl

/-- one word -/
theorem MAt.word {mb mc : Nat} (h : MAt w base b own mm xs (.slice (some ⟨mb, 0, none⟩) mm.mem.length mc) tv ev) {a : Nat} (ha : a < mm.mem.length) (v : Int) :
    MAt (w.setCell ⟨mb, a, none⟩ (.int .i64 v)) base b own { mm with mem := mm.mem.set a v } xs (.slice (some ⟨mb, 0, none⟩) mm.mem.length mc) tv ev := by
  have hk : ∀ g, own g ≠ 2 → (w.setCell ⟨mb, a, none⟩ (.int .i64 v)).heap[g]? = w.heap[g]? := fun g hg => Below.heap_setCell _ _ _ _ fun e => hg (by rw [e]; exact h.memT mb rfl)
  have hr := (rowSet (j := 0) (y := v) (u := .int .i64 v) encI_len h.mem (List.getElem?_eq_getElem ha) rfl (by decide)).2
  rw [Nat.mul_one, Nat.add_zero] at hr
  exact ⟨(hk b (by rw [h.bT.2]; decide)).trans h.blk, h.bT, by rw [List.length_set]; exact hr, h.memT, ownRow_keep h.ths fun g hg _ => hk g (by rw [h.thsT g hg]; decide), h.thsT, ownRow_keep h.evs fun g hg _ => hk g (by rw [h.evsT g hg]; decide), h.evsT, h.same,
    fun i z hz => (h.th i z hz).keep (fun _ _ => rfl) fun g hg _ => hk g (by omega), fun k hk' => h.fresh k (by rw [heapSize_setCell] at hk'; exact hk')⟩
theorem MAt.mslice (h : MAt w base b own mm xs mv tv ev) (hm : 0 < mm.mem.length) : ∃ mb cap, mv = .slice (some ⟨mb, 0, none⟩) mm.mem.length cap ∧ own mb = 2 := by
  obtain ⟨ao, cap, rfl⟩ := ownsRow_shape h.mem
  obtain ⟨mb, cur, rfl, _⟩ := ownsRow_some h.mem hm
  exact ⟨mb, cap, rfl, h.memT mb rfl⟩
theorem MAt.mcell {mb mc : Nat} (h : MAt w base b own mm xs (.slice (some ⟨mb, 0, none⟩) mm.mem.length mc) tv ev) {a : Nat} (ha : a < mm.mem.length) : w.cell? ⟨mb, a, none⟩ = some (.int .i64 (mm.mem.getD a 0)) := by
  obtain ⟨b', off, e1, hb, hc⟩ := RdT.at (enc := encI) encI_len (Rd.of_own h.mem) (List.getElem?_eq_getElem ha)
  simp only [Option.some.injEq, Addr.mk.injEq, and_true] at e1
  obtain ⟨rfl, rfl⟩ := e1
  have := hc 0 _ rfl
  rw [Nat.zero_add, Nat.mul_one, Nat.add_zero] at this
  rw [this]
  simp [List.getD, ha]
theorem MAt.mfree {mb mc : Nat} (h : MAt w base b own mm xs (.slice (some ⟨mb, 0, none⟩) mm.mem.length mc) tv ev) (hn : 0 < mm.mem.length) (o : Nat) : w.frozen? ⟨mb, o, none⟩ = false := by
  obtain ⟨tb', cur, e1, _, hg, _⟩ := ownsRow_some h.mem hn
  simp only [Option.some.injEq, Addr.mk.injEq, and_true] at e1
  subst e1
  exact free_of_block hg

/-- blocks that are new are tagged -/
def retag (own : Nat → Nat) (v : Value) (p n : Nat) : Nat → Nat := fun k => if v.ownBlock = some k ∧ n ≤ k then p else own k
theorem retag_old {own : Nat → Nat} {v : Value} {p n k : Nat} (h : k < n) : retag own v p n k = own k := by
  unfold retag
  rw [if_neg (by omega)]
theorem retag_new {own : Nat → Nat} {v u : Value} {p n g : Nat} (hf : ∀ g, v.ownBlock = some g → u.ownBlock = some g ∨ n ≤ g) (hu : ∀ g, u.ownBlock = some g → own g = p) (hg : v.ownBlock = some g) : retag own v p n g = p := by
  unfold retag
  split
  · rfl
  · rename_i hn
    rcases hf g hg with e | e
    · exact hu g e
    · exact absurd ⟨hg, e⟩ hn

theorem retag_fresh {own : Nat → Nat} {v : Value} {p n m k : Nat} (hl : ∀ g, v.ownBlock = some g → g < m) (h0 : own k = 0) (hk : m ≤ k) : retag own v p n k = 0 := by
  unfold retag
  rw [if_neg (fun h => by have := hl k h.1; omega)]
  exact h0

/-- events -/
theorem MAt.event (h : MAt w base b own mm xs mv tv ev) (es : List Ev) (ev' : Value) (hc : Chg (fun k => k = b ∨ ev.ownBlock = some k) w w') (hb : w'.heap[b]? = some (.cells #[.bool true, mv, tv, ev'] 179 (0, 0)))
    (he : w'.ownsRow base 127 4 ev' es.length (es.flatMap encEv)) (hf : ∀ g, ev'.ownBlock = some g → ev.ownBlock = some g ∨ w.heap.size ≤ g) :
    MAt w' base b (retag own ev' 4 w.heap.size) { mm with evs := es } xs mv tv ev' := by
  have ho : ∀ k, k < w.heap.size → retag own ev' 4 w.heap.size k = own k := fun k hk => retag_old hk
  have hk : ∀ g, own g ≠ 1 → own g ≠ 4 → g < w.heap.size → w'.heap[g]? = w.heap[g]? := fun g h1 h4 hl => hc.block g hl fun e => by
    rcases e with e | e
    · exact h1 (by rw [e]; exact h.bT.2)
    · exact h4 (h.evsT g e)
  exact ⟨hb, ⟨h.bT.1, by rw [ho _ h.lt]; exact h.bT.2⟩, ownRow_keep h.mem fun g hg hl => hk g (by rw [h.memT g hg]; decide) (by rw [h.memT g hg]; decide) hl, fun g hg => by rw [ho _ (rowLt h.mem hg).2]; exact h.memT g hg,
    ownRow_keep h.ths fun g hg hl => hk g (by rw [h.thsT g hg]; decide) (by rw [h.thsT g hg]; decide) hl, fun g hg => by rw [ho _ (rowLt h.ths hg).2]; exact h.thsT g hg, he, fun g hg => retag_new hf h.evsT hg, h.same,
    fun i z hz => (h.th i z hz).keep ho fun g hg hl => hk g (by omega) (by omega) hl, fun k hk' => retag_fresh (fun g hg => (rowLt he hg).2) (h.fresh k (by have := hc.size; omega)) hk'⟩

/-- a thread tells -/
theorem MAt.told {tb cap : Nat} (h : MAt w base b own mm xs mv (.slice (some ⟨tb, 0, none⟩) xs.length cap) ev) {n : Nat} {x : TX} (hx : xs[n]? = some x) (os : List Int) (ov' : Value) (hc : Chg (fun k => x.ov.ownBlock = some k) w w')
    (he : w'.ownsRow base 2 1 ov' os.length (os.flatMap encI)) (hf : ∀ g, ov'.ownBlock = some g → x.ov.ownBlock = some g ∨ w.heap.size ≤ g) :
    MAt (w'.setCell ⟨tb, n * 13 + 11, none⟩ ov') base b (retag own ov' (7 + 3 * n) w.heap.size) (mm.put n { x.th with out := os }) (xs.set n { x with th := { x.th with out := os }, ov := ov' }) mv (.slice (some ⟨tb, 0, none⟩) (xs.set n { x with th := { x.th with out := os }, ov := ov' }).length cap) ev := by
  have ho : ∀ k, k < w.heap.size → retag own ov' (7 + 3 * n) w.heap.size k = own k := fun k hk => retag_old hk
  have hx7 := (h.th n x hx).outT
  have hk0 : ∀ g, own g ≠ 7 + 3 * n → g < w.heap.size → w'.heap[g]? = w.heap[g]? := fun g h1 hl => hc.block g hl fun e => h1 (hx7 g e)
  have hk : ∀ g, own g ≠ 3 → own g ≠ 7 + 3 * n → g < w.heap.size → (w'.setCell ⟨tb, n * 13 + 11, none⟩ ov').heap[g]? = w.heap[g]? := fun g h3 h7 hl => by
    rw [Below.heap_setCell _ _ _ _ fun e => h3 (by rw [e]; exact h.thsT tb rfl)]
    exact hk0 g h7 hl
  have htb : tb < w.heap.size := (rowLt h.ths rfl).2
  have hr := (rowSet (j := 11) (y := { x with th := { x.th with out := os }, ov := ov' }) (u := ov') encX_len (ownRow_keep h.ths fun g hg hl => hk0 g (by rw [h.thsT g hg]; omega) hl) hx rfl (by decide)).2
  have hntb : ∀ g, ov'.ownBlock = some g → g ≠ tb := fun g hg e => by
    rcases hf g hg with e' | e'
    · have := hx7 g e'; rw [e, h.thsT tb rfl] at this; omega
    · omega
  refine ⟨by rw [List.length_set]; exact (hk b (by rw [h.bT.2]; decide) (by rw [h.bT.2]; omega) h.lt).trans h.blk, ⟨h.bT.1, by rw [ho _ h.lt]; exact h.bT.2⟩, ownRow_keep h.mem fun g hg hl => hk g (by rw [h.memT g hg]; decide) (by rw [h.memT g hg]; omega) hl, fun g hg => by rw [ho _ (rowLt h.mem hg).2]; exact h.memT g hg,
    by rw [List.length_set]; exact hr, fun g hg => by rw [ho _ (rowLt h.ths hg).2]; exact h.thsT g hg, ownRow_keep h.evs fun g hg hl => hk g (by rw [h.evsT g hg]; decide) (by rw [h.evsT g hg]; omega) hl, fun g hg => by rw [ho _ (rowLt h.evs hg).2]; exact h.evsT g hg,
    by rw [MM.put, List.map_set, h.same], fun i z hz => ?_, fun k hk' => by rw [heapSize_setCell] at hk'; exact retag_fresh (fun g hg => (rowLt he hg).2) (h.fresh k (by have := hc.size; omega)) hk'⟩
  rw [List.getElem?_set] at hz
  split at hz
  · rename_i e
    subst e
    split at hz
    · cases hz
      have ht := h.th n x hx
      obtain ⟨c, f, hrg⟩ := ht.ring
      have htk := ht
      refine ⟨ht.code.keepN fun g hn hg hl => hk g (by rw [(ht.codeT g hn hg).2]; omega) (by rw [(ht.codeT g hn hg).2]; omega) hl, fun g hn hg => ?_, ⟨c, f, hrg.keep (hk _ (by rw [ht.ringT.2]; omega) (by rw [ht.ringT.2]; omega) hrg.lt)⟩,
        ⟨ht.ringT.1, by rw [ho _ hrg.lt]; exact ht.ringT.2⟩, ownRow_keep he fun g hg _ => Below.heap_setCell _ _ _ _ (hntb g hg), fun g hg => retag_new hf hx7 hg⟩
      refine ⟨(ht.codeT g hn hg).1, ?_⟩
      obtain ⟨h1, ao, cp, h2, h3, h4⟩ := ht.code
      obtain ⟨bb, off, rfl, hb, _⟩ := h4 (List.length_pos_iff.2 hn)
      rw [h2] at hg
      simp only [Value.ownBlock, Option.some.injEq] at hg
      subst hg
      rw [ho _ hb]
      exact (ht.codeT bb hn (by rw [h2]; rfl)).2
    · cases hz
  · rename_i hne
    exact (h.th i z hz).keep ho fun g hg hl => hk g (by omega) (by omega) hl

/-- what a call leaves behind: a machine in the old one's place -/
def MGoes (w : World) (base b : Nat) (own : Nat → Nat) (mm' : MM) (w' : World) : Prop :=
  (∃ own' xs mv tv ev, MAt w' base b own' mm' xs mv tv ev ∧ ∀ k, k < w.heap.size → own' k = own k) ∧ Chg (fun k => own k ≠ 0 ∧ ¬ (5 ≤ own k ∧ own k % 3 = 2)) w w'
end Go.Proofs.YtopdcjimpdalpaaGreat

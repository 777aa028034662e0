/- A book of wides, cells, events, seens, and rows that it has yet to take: keeping one after another, Seen, Trace, Cells, Apart. -/
import Derived.Test.YthmmbldhbdnfpaaGreatDoorMBk
import Derived.Test.YthmmbldhbdnfpaaGreatDoorMTsoU
namespace Go.Proofs.YthmmbldhbdnfpaaGreatDoor
open Go.RowKit
set_option linter.unusedVariables false
set_option linter.unusedSimpArgs false

variable {w0 w w' : World} {kb cnt : Nat} {ws : List (Nat × Obj)}

/-- whatever the book owns lies in memory that there is -/
theorem BkPlays.tight {w : World} {base kb cnt : Nat} {O : Nat → Prop} (h : BkPlays w base kb cnt O) : BkPlays w base kb cnt (fun g => O g ∧ g < w.heap.size) := by
  obtain ⟨C, hWide, hCell, hEvent, hSeen, eWide, eCell, eEvent, eSeen, h⟩ := h
  exact ⟨C, hWide, hCell, hEvent, hSeen, eWide, eCell, eEvent, eSeen, h.blk, h.csz, h.c0, h.cWide, h.cCell, h.cEvent, h.cSeen, h.cno, h.kWide, h.nWide, h.lWide, fun g hg => ⟨h.oWide g hg, (h.kWide.from hg).2⟩, h.kCell, h.nCell, h.lCell, fun g hg => ⟨h.oCell g hg, (h.kCell.from hg).2⟩, h.kEvent, h.nEvent, h.lEvent, fun g hg => ⟨h.oEvent g hg, (h.kEvent.from hg).2⟩, h.kSeen, h.nSeen, h.lSeen, fun g hg => ⟨h.oSeen g hg, (h.kSeen.from hg).2⟩, h.sWideCell, h.sWideEvent, h.sWideSeen, h.sCellEvent, h.sCellSeen, h.sEventSeen, h.cm⟩

/-- a row: its kind, where it lies, how long it is -/
structure RowK where
  k : Nat
  v : Value
  n : Nat
  cs : List Value
def rowT : Nat → TypeId
  | 0 => 2
  | 1 => 105
  | 2 => 154
  | _ => 131
def rowZ : Nat → Nat
  | 0 => 1
  | 1 => 2
  | 2 => 4
  | _ => 2
def ApartK (r s : RowK) : Prop := ∀ g, r.v.ownBlock = some g → s.v.ownBlock ≠ some g

/-- O: what the book owns -/
def LowK (w0 w : World) (rows : List RowK) (ws : List (Nat × Obj)) (O : Nat → Prop) : Prop := ∀ k, O k → (w0.heap.size ≤ k ∧ k < w.heap.size) ∧ (∀ r ∈ rows, r.v.ownBlock ≠ some k) ∧ ∀ p ∈ ws, p.1 ≠ k
/-- ws: blocks that are none of the book's, and stay -/
structure BkT (w0 w : World) (kb cnt : Nat) (rows : List RowK) (ws : List (Nat × Obj)) : Prop where
  bk : ∃ O, BkPlays w w0.heap.size kb cnt O ∧ LowK w0 w rows ws O
  wat : ∀ p ∈ ws, w.heap[p.1]? = some p.2 ∧ p.1 ≠ kb ∧ ∀ r ∈ rows, r.v.ownBlock ≠ some p.1
  own : ∀ r ∈ rows, w.ownsRow w0.heap.size (rowT r.k) (rowZ r.k) r.v r.n r.cs
  kbf : ∀ r ∈ rows, r.v.ownBlock ≠ some kb
  pw : rows.Pairwise ApartK
  kl : w0.heap.size ≤ kb ∧ kb < w.heap.size
  old : Below w0.heap.size w0 w

theorem BkT.start {rows : List RowK} (hb : Below w0.heap.size w0 w) (hown : ∀ r ∈ rows, w.ownsRow w0.heap.size (rowT r.k) (rowZ r.k) r.v r.n r.cs) (hpw : rows.Pairwise ApartK) (hws : ∀ p ∈ ws, w.heap[p.1]? = some p.2 ∧ ∀ r ∈ rows, r.v.ownBlock ≠ some p.1) :
    BkT w0 (w.alloc (.cells zeroBook 92)) w.heap.size 0 rows ws :=
  ⟨⟨fun _ => False, BkPlays.nil (block_new w _), fun k h => h.elim⟩, fun p hp => ⟨block_alloc (hws p hp).1, by have := lt_of_block (hws p hp).1; omega, (hws p hp).2⟩, fun r hr => ownRow_keep (hown r hr) fun k _ hl => ((Below.refl w.heap.size w).alloc (Nat.le_refl _) _).block k hl,
    fun r hr e => by have := (rowLt (hown r hr) e).2; omega, hpw, ⟨hb.size, by simp⟩, hb.alloc hb.size _⟩
theorem BkT.below {rows : List RowK} (h : BkT w0 w kb cnt rows ws) (hb : Below w.heap.size w w') : BkT w0 w' kb cnt rows ws := by
  obtain ⟨O, h1, h2⟩ := h.bk
  have hs := hb.size
  exact ⟨⟨O, h1.below hb, fun k hk => ⟨⟨(h2 k hk).1.1, by have := (h2 k hk).1.2; omega⟩, (h2 k hk).2⟩⟩, fun p hp => ⟨blk hb (h.wat p hp).1, (h.wat p hp).2⟩, fun r hr => ownRow_keep (h.own r hr) fun k _ hl => hb.block k hl, h.kbf, h.pw, ⟨h.kl.1, by have := h.kl.2; omega⟩, h.old.trans (hb.mono h.old.size)⟩
/-- a new block is watched -/
theorem BkT.watch {rows : List RowK} (h : BkT w0 w kb cnt rows ws) (o : Obj) : BkT w0 (w.alloc o) kb cnt rows ((w.heap.size, o) :: ws) := by
  have h1 := h.below ((Below.refl w.heap.size w).alloc (Nat.le_refl _) o)
  obtain ⟨O, h2, h3⟩ := h.bk
  refine ⟨⟨O, h2.below ((Below.refl w.heap.size w).alloc (Nat.le_refl _) o), fun k hk => ⟨⟨(h3 k hk).1.1, by have := (h3 k hk).1.2; simp; omega⟩, (h3 k hk).2.1, fun p hp e => ?_⟩⟩, fun p hp => ?_, h1.own, h1.kbf, h1.pw, h1.kl, h1.old⟩
  · rcases List.mem_cons.1 hp with rfl | hp
    · have := (h3 k hk).1.2
      simp only at e
      omega
    · exact (h3 k hk).2.2 p hp e
  · rcases List.mem_cons.1 hp with rfl | hp
    · exact ⟨block_new w o, by have := h.kl.2; simp only; omega, fun r hr e => by have := (rowLt (h.own r hr) e).2; omega⟩
    · exact h1.wat p hp
theorem BkT.unwatch {rows : List RowK} {ws' : List (Nat × Obj)} (h : BkT w0 w kb cnt rows ws) (hs : ∀ p ∈ ws', p ∈ ws) : BkT w0 w kb cnt rows ws' := by
  obtain ⟨O, h2, h3⟩ := h.bk
  exact ⟨⟨O, h2, fun k hk => ⟨(h3 k hk).1, (h3 k hk).2.1, fun p hp => (h3 k hk).2.2 p (hs p hp)⟩⟩, fun p hp => h.wat p (hs p hp), h.own, h.kbf, h.pw, h.kl, h.old⟩
/-- a new row -/
theorem BkT.add {rows : List RowK} {r : RowK} (h : BkT w0 w kb cnt rows ws) (hb : Below w.heap.size w w') (hown : w'.ownsRow w.heap.size (rowT r.k) (rowZ r.k) r.v r.n r.cs) : BkT w0 w' kb cnt (r :: rows) ws := by
  have h1 := h.below hb
  obtain ⟨O, h2, h3⟩ := h.bk
  have hs := hb.size
  refine ⟨⟨O, h2.below hb, fun k hk => ⟨⟨(h3 k hk).1.1, by have := (h3 k hk).1.2; omega⟩, fun s hs' => ?_, (h3 k hk).2.2⟩⟩, fun p hp => ⟨(h1.wat p hp).1, (h1.wat p hp).2.1, fun s hs' => ?_⟩, fun s hs' => ?_, fun s hs' => ?_, List.pairwise_cons.2 ⟨fun s hs' g hg e => ?_, h.pw⟩, h1.kl, h1.old⟩
  · rcases List.mem_cons.1 hs' with rfl | hs'
    · exact fun e => by have := (rowLt hown e).1; have := (h3 k hk).1.2; omega
    · exact (h3 k hk).2.1 s hs'
  · rcases List.mem_cons.1 hs' with rfl | hs'
    · exact fun e => by have := (rowLt hown e).1; have := lt_of_block (h.wat p hp).1; omega
    · exact (h.wat p hp).2.2 s hs'
  · rcases List.mem_cons.1 hs' with rfl | hs'
    · exact ownsRow_mono hown h.old.size
    · exact h1.own s hs'
  · rcases List.mem_cons.1 hs' with rfl | hs'
    · exact fun e => by have := (rowLt hown e).1; have := h.kl.2; omega
    · exact h.kbf s hs'
  · have := (rowLt hown hg).1
    have := (rowLt (h.own s hs') e).2
    omega
theorem BkT.free {r : RowK} {rows : List RowK} {O : Nat → Prop} (h : BkT w0 w kb cnt (r :: rows) ws) (hlow : LowK w0 w (r :: rows) ws O) : ∀ s ∈ r :: rows, ∀ g, s.v.ownBlock = some g → ¬ O g ∧ g ≠ kb := fun s hs g hg =>
  ⟨fun e => (hlow g e).2.1 s hs hg, fun e => h.kbf s hs (by rw [← e]; exact hg)⟩
/-- the first row is taken -/
theorem BkT.took {r : RowK} {rows : List RowK} {O : Nat → Prop} (h : BkT w0 w kb cnt (r :: rows) ws) (hlow : LowK w0 w (r :: rows) ws O)
    (hb : BkPlays w' w0.heap.size kb (cnt + 1) (fun g => O g ∨ w.heap.size ≤ g ∨ r.v.ownBlock = some g)) (hchg : Chg (fun k => k = kb ∨ O k) w w') : BkT w0 w' kb (cnt + 1) rows ws := by
  have hpw := List.pairwise_cons.1 h.pw
  have hs := hchg.size
  refine ⟨⟨_, hb.tight, fun k hk => ⟨⟨?_, hk.2⟩, fun s hs' e => ?_, fun p hp e => ?_⟩⟩, fun p hp => ⟨chgblk hchg (h.wat p hp).1 (fun e => ?_), (h.wat p hp).2.1, fun s hs' => (h.wat p hp).2.2 s (List.mem_cons_of_mem _ hs')⟩, fun s hs' => ?_, fun s hs' => h.kbf s (List.mem_cons_of_mem _ hs'), hpw.2, ⟨h.kl.1, by have := h.kl.2; omega⟩, ?_⟩
  · rcases hk.1 with e | e | e
    · exact (hlow k e).1.1
    · have := h.old.size; omega
    · exact (rowLt (h.own r (by simp)) e).1
  · rcases hk.1 with q | q | q
    · exact (hlow k q).2.1 s (List.mem_cons_of_mem _ hs') e
    · have := (rowLt (h.own s (List.mem_cons_of_mem _ hs')) e).2; omega
    · exact hpw.1 s hs' k q e
  · rcases hk.1 with q | q | q
    · exact (hlow k q).2.2 p hp e
    · have := lt_of_block (h.wat p hp).1; omega
    · exact (h.wat p hp).2.2 r (by simp) (by rw [e]; exact q)
  · rcases e with e | e
    · exact (h.wat p hp).2.1 e
    · exact (hlow _ e).2.2 p hp rfl
  · exact ownsRow_chg (h.own s (List.mem_cons_of_mem _ hs')) hchg (fun k hk e => by
      rcases e with e | e
      · exact h.kbf s (List.mem_cons_of_mem _ hs') (by rw [← e]; exact hk)
      · exact (hlow k e).2.1 s (List.mem_cons_of_mem _ hs') hk)
  · exact Chg.below h.old h.old.size hchg (fun k hk => by
      rcases hk with rfl | e
      · exact h.kl.1
      · exact (hlow k e).1.1)

theorem BkT.keepWide {r : RowK} {rows : List RowK} (hr : r.k = 0) (h : BkT w0 w kb cnt (r :: rows) ws) (hc : cnt < 4000000) (hn : r.n ≤ 4000000) :
    Calls Tryz.prog 197 #[.pointer (some ⟨kb, 0, none⟩), r.v] w fun e w' => e = .returned (.tuple #[]) ∧ BkT w0 w' kb (cnt + 1) rows ws := by
  obtain ⟨O, hbk, hlow⟩ := h.bk
  have hown : w.ownsRow w0.heap.size 2 1 r.v r.n r.cs := by
    have := h.own r (by simp)
    rw [hr] at this
    exact this
  obtain ⟨lo, lc, hv⟩ := ownsRow_shape hown
  rw [hv] at hown ⊢
  have hf := h.free hlow
  refine (bkPlays_keepWide hbk hc hn hown (fun g hg => by rw [← hv] at hg; exact hf r (by simp) g hg) h.old.size).mono ?_
  rintro e w' ⟨rfl, hb, hchg⟩
  rw [← hv] at hb
  exact ⟨rfl, h.took hlow hb hchg⟩

theorem BkT.keepCell {r : RowK} {rows : List RowK} (hr : r.k = 1) (h : BkT w0 w kb cnt (r :: rows) ws) (hc : cnt < 4000000) (hn : r.n ≤ 4000000) :
    Calls Tryz.prog 199 #[.pointer (some ⟨kb, 0, none⟩), r.v] w fun e w' => e = .returned (.tuple #[]) ∧ BkT w0 w' kb (cnt + 1) rows ws := by
  obtain ⟨O, hbk, hlow⟩ := h.bk
  have hown : w.ownsRow w0.heap.size 105 2 r.v r.n r.cs := by
    have := h.own r (by simp)
    rw [hr] at this
    exact this
  obtain ⟨lo, lc, hv⟩ := ownsRow_shape hown
  rw [hv] at hown ⊢
  have hf := h.free hlow
  refine (bkPlays_keepCell hbk hc hn hown (fun g hg => by rw [← hv] at hg; exact hf r (by simp) g hg) h.old.size).mono ?_
  rintro e w' ⟨rfl, hb, hchg⟩
  rw [← hv] at hb
  exact ⟨rfl, h.took hlow hb hchg⟩

theorem BkT.keepEvent {r : RowK} {rows : List RowK} (hr : r.k = 2) (h : BkT w0 w kb cnt (r :: rows) ws) (hc : cnt < 4000000) (hn : r.n ≤ 4000000) :
    Calls Tryz.prog 81 #[.pointer (some ⟨kb, 0, none⟩), r.v] w fun e w' => e = .returned (.tuple #[]) ∧ BkT w0 w' kb (cnt + 1) rows ws := by
  obtain ⟨O, hbk, hlow⟩ := h.bk
  have hown : w.ownsRow w0.heap.size 154 4 r.v r.n r.cs := by
    have := h.own r (by simp)
    rw [hr] at this
    exact this
  obtain ⟨lo, lc, hv⟩ := ownsRow_shape hown
  rw [hv] at hown ⊢
  have hf := h.free hlow
  refine (bkPlays_keepEvent hbk hc hn hown (fun g hg => by rw [← hv] at hg; exact hf r (by simp) g hg) h.old.size).mono ?_
  rintro e w' ⟨rfl, hb, hchg⟩
  rw [← hv] at hb
  exact ⟨rfl, h.took hlow hb hchg⟩

theorem BkT.keepSeen {r : RowK} {rows : List RowK} (hr : r.k = 3) (h : BkT w0 w kb cnt (r :: rows) ws) (hc : cnt < 4000000) (hn : r.n ≤ 4000000) :
    Calls Tryz.prog 198 #[.pointer (some ⟨kb, 0, none⟩), r.v] w fun e w' => e = .returned (.tuple #[]) ∧ BkT w0 w' kb (cnt + 1) rows ws := by
  obtain ⟨O, hbk, hlow⟩ := h.bk
  have hown : w.ownsRow w0.heap.size 131 2 r.v r.n r.cs := by
    have := h.own r (by simp)
    rw [hr] at this
    exact this
  obtain ⟨lo, lc, hv⟩ := ownsRow_shape hown
  rw [hv] at hown ⊢
  have hf := h.free hlow
  refine (bkPlays_keepSeen hbk hc hn hown (fun g hg => by rw [← hv] at hg; exact hf r (by simp) g hg) h.old.size).mono ?_
  rintro e w' ⟨rfl, hb, hchg⟩
  rw [← hv] at hb
  exact ⟨rfl, h.took hlow hb hchg⟩

/-- all are taken: whether they are apart -/
theorem BkT.done {rows : List RowK} (h : BkT w0 w kb cnt rows ws) :
    Calls Tryz.prog 26 #[.pointer (some ⟨kb, 0, none⟩)] w fun e w' => e = .returned (.bool true) ∧ Below w0.heap.size w0 w' := by
  obtain ⟨O, hbk, hlow⟩ := h.bk
  refine (bkPlays_apart hbk).mono ?_
  rintro e w' ⟨rfl, hc⟩
  exact ⟨rfl, Chg.below h.old h.old.size hc (fun k hk => (hlow k hk).1.1)⟩

def wideK (s : SX) : RowK := ⟨0, s.v, s.out.length, s.out.flatMap encI⟩
def seenK (v : Value) (ls : List SX) : RowK := ⟨3, v, ls.length, ls.flatMap encS⟩
def evK (v : Value) (es : List Ev) : RowK := ⟨2, v, es.length, es.flatMap encEv⟩
def cellK (v : Value) (cs : List (Int × Int)) : RowK := ⟨1, v, cs.length, cs.flatMap encCell⟩

set_option maxHeartbeats 1000000 in
theorem BkT.events {v : Value} {es : List Ev} {rows : List RowK} (h : BkT w0 w kb cnt (evK v es :: rows) ws) (hc : cnt < 4000000) (hn : es.length ≤ 4000000) :
    Calls Tryz.prog 72 #[.pointer (some ⟨kb, 0, none⟩), v] w fun e w' => e = .returned (.tuple #[]) ∧ BkT w0 w' kb (cnt + 1) rows ws := by
  have hsh : ∃ ao c, v = .slice ao es.length c := ownsRow_shape (h.own (evK v es) (by simp))
  obtain ⟨lo, lc, rfl⟩ := hsh
  have HK := hidI (BkT.keepEvent (r := evK _ es) rfl h hc hn)
  clear h hc hn
  go_enter Tryz.func72, Tryz.ntmps72
  go_wp2_with fail
  refine HK.out.mono ?_
  rintro e w1 ⟨rfl, h1⟩
  have HK1 := hidI h1
  clear h1
  go_wp2_with fail
  go_end0
  exact ⟨rfl, HK1.out⟩
set_option maxHeartbeats 1000000 in
theorem BkT.cells {v : Value} {cs : List (Int × Int)} {rows : List RowK} (h : BkT w0 w kb cnt (cellK v cs :: rows) ws) (hc : cnt < 4000000) (hn : cs.length ≤ 4000000) :
    Calls Tryz.prog 73 #[.pointer (some ⟨kb, 0, none⟩), v] w fun e w' => e = .returned (.tuple #[]) ∧ BkT w0 w' kb (cnt + 1) rows ws := by
  have hsh : ∃ ao c, v = .slice ao cs.length c := ownsRow_shape (h.own (cellK v cs) (by simp))
  obtain ⟨lo, lc, rfl⟩ := hsh
  have HK := hidI (BkT.keepCell (r := cellK _ cs) rfl h hc hn)
  clear h hc hn
  go_enter Tryz.func73, Tryz.ntmps73
  go_wp2_with fail
  refine HK.out.mono ?_
  rintro e w1 ⟨rfl, h1⟩
  have HK1 := hidI h1
  clear h1
  go_wp2_with fail
  go_end0
  exact ⟨rfl, HK1.out⟩

set_option maxHeartbeats 2000000 in
theorem BkT.seen {v : Value} {ls : List SX} {rows : List RowK} (h : BkT w0 w kb cnt (ls.map wideK ++ seenK v ls :: rows) ws) (hc : cnt + 5 < 4000000) (hl : ls.length ≤ 4) (hn : ∀ s ∈ ls, s.out.length ≤ 4000000) :
    Calls Tryz.prog 71 #[.pointer (some ⟨kb, 0, none⟩), v] w fun e w' => e = .returned (.tuple #[]) ∧ BkT w0 w' kb (cnt + ls.length + 1) rows ws := by
  have hsh : ∃ ao c, v = .slice ao ls.length c := ownsRow_shape (h.own (seenK v ls) (by simp))
  obtain ⟨lo, lc, rfl⟩ := hsh
  have HK := hidI h
  have HC := hidI hc
  have HN := hidI hn
  clear h hc hn
  go_enter Tryz.func71, Tryz.ntmps71
  go_wp2_with fail
  go_loopw [7] (fun i w' => ∃ k : Nat, k ≤ ls.length ∧ i = .int .i64 (k : Int) ∧ Hid (BkT w0 w' kb (cnt + k) ((ls.drop k).map wideK ++ seenK (.slice lo ls.length lc) ls :: rows) ws)) (fun i _ => ((ls.length : Int) - intOf i).toNat)
  case atStart => exact ⟨0, by omega, rfl, hidI (by simpa using HK.out)⟩
  case round =>
    obtain ⟨k, hk, rfl, HB⟩ := hrel
    by_cases hlt : k < ls.length
    · obtain ⟨s, hs⟩ := some_at hlt
      have hrd : RdT encS wr 2 (.slice lo ls.length lc) ls := Rd.of_own (HB.out.own (seenK (.slice lo ls.length lc) ls) (by simp))
      obtain ⟨b1, o1, rfl, hs1, hc1⟩ := RdT.at encS_len hrd hs
      have x0 := hc1 0 _ rfl
      simp only [Nat.add_zero] at x0
      have hdrop : ls.drop k = s :: ls.drop (k + 1) := by
        obtain ⟨hl', he⟩ := List.getElem?_eq_some_iff.1 hs
        rw [← he]; exact List.drop_eq_getElem_cons hl'
      have hB := HB.out
      rw [hdrop, List.map_cons, List.cons_append] at hB
      have hshs : ∃ ao c, s.v = .slice ao s.out.length c := ownsRow_shape (hB.own (wideK s) (by simp))
      obtain ⟨so, sc, hsv⟩ := hshs
      have HT := hidI (BkT.keepWide (r := wideK s) rfl hB (by have := HC.out; omega) (HN.out s (List.mem_of_getElem? hs)))
      have hT : Hid (Calls Tryz.prog 197 #[.pointer (some ⟨kb, 0, none⟩), .slice so s.out.length sc] wr fun e w' => e = .returned (.tuple #[]) ∧ BkT w0 w' kb (cnt + k + 1) ((ls.drop (k + 1)).map wideK ++ seenK (.slice (some ⟨b1, o1, none⟩) ls.length lc) ls :: rows) ws) := by
        have h9 := HT.out
        rw [show (wideK s).v = .slice so s.out.length sc from hsv] at h9
        exact hidI h9
      rw [hsv] at x0
      clear hrd hs1 hc1 hdrop hB HT hsv HB
      go_wp2_with fail
      refine hT.out.mono ?_
      rintro e w3 ⟨rfl, hb3⟩
      have HB3 := hidI hb3
      clear hb3
      go_wp2_with fail
      exact ⟨⟨k + 1, by omega, by go_num, HB3⟩, by simp [intOf]; omega⟩
    · obtain rfl : k = ls.length := by omega
      have hB := HB.out
      rw [List.drop_length, List.map_nil, List.nil_append] at hB
      have HT := hidI (BkT.keepSeen (r := seenK (.slice lo ls.length lc) ls) rfl hB (by have := HC.out; omega) (show ls.length ≤ 4000000 by omega))
      clear hB
      go_wp2_with fail
      refine HT.out.mono ?_
      rintro e w3 ⟨rfl, hb3⟩
      have HB3 := hidI hb3
      clear hb3
      go_wp2_with fail
      go_end0
      exact ⟨rfl, HB3.out⟩

/-- rows that lie from lo on, below hi -/
structure Layer (w : World) (lo hi : Nat) (rows : List RowK) : Prop where
  own : ∀ r ∈ rows, w.ownsRow lo (rowT r.k) (rowZ r.k) r.v r.n r.cs
  lt : ∀ r ∈ rows, ∀ g, r.v.ownBlock = some g → g < hi
  pw : rows.Pairwise ApartK
theorem Layer.below {lo hi : Nat} {rows : List RowK} (h : Layer w lo hi rows) (hb : Below w.heap.size w w') : Layer w' lo hi rows := ⟨fun r hr => ownRow_keep (h.own r hr) fun g _ hl => hb.block g hl, h.lt, h.pw⟩
theorem Layer.app {lo mid hi : Nat} {A B : List RowK} (h : Layer w lo mid A) (g : Layer w mid hi B) (h1 : lo ≤ mid) (h2 : mid ≤ hi) : Layer w lo hi (A ++ B) :=
  ⟨fun r hr => by
    rcases List.mem_append.1 hr with hr | hr
    · exact h.own r hr
    · exact ownsRow_mono (g.own r hr) h1, fun r hr q hq => by
    rcases List.mem_append.1 hr with hr | hr
    · have := h.lt r hr q hq; omega
    · exact g.lt r hr q hq, List.pairwise_append.2 ⟨h.pw, g.pw, fun r hr s hs q hq e => by
    have := h.lt r hr q hq
    have := (rowLt (g.own s hs) e).1
    omega⟩⟩
theorem Layer.nil (w : World) (lo hi : Nat) : Layer w lo hi [] := ⟨fun r hr => absurd hr (by simp), fun r hr => absurd hr (by simp), List.Pairwise.nil⟩
/-- what Seen answers -/
theorem Layer.seen {ls : List SX} {lo : Nat} {v : Value} (h1 : w.ownsRow lo 131 2 v ls.length (ls.flatMap encS)) (h2 : ∀ s ∈ ls, w.ownsRow lo 2 1 s.v s.out.length (s.out.flatMap encI) ∧ ∀ g, s.v.ownBlock = some g → v.ownBlock ≠ some g) (h3 : ls.Pairwise ApartS) : Layer w lo w.heap.size (ls.map wideK ++ [seenK v ls]) := by
  have hown : ∀ r ∈ ls.map wideK ++ [seenK v ls], w.ownsRow lo (rowT r.k) (rowZ r.k) r.v r.n r.cs := fun r hr => by
    rcases List.mem_append.1 hr with hr | hr
    · obtain ⟨s, hs, rfl⟩ := List.mem_map.1 hr
      exact (h2 s hs).1
    · rw [List.mem_singleton.1 hr]
      exact h1
  refine ⟨hown, fun r hr g hg => (rowLt (hown r hr) hg).2, List.pairwise_append.2 ⟨List.pairwise_map.2 (h3.imp fun h => h), List.pairwise_singleton _ _, fun r hr s hs g hg e => ?_⟩⟩
  obtain ⟨x, hx, rfl⟩ := List.mem_map.1 hr
  rw [List.mem_singleton.1 hs] at e
  exact (h2 x hx).2 g hg e
theorem Layer.one {lo : Nat} {r : RowK} (h : w.ownsRow lo (rowT r.k) (rowZ r.k) r.v r.n r.cs) : Layer w lo w.heap.size [r] :=
  ⟨fun s hs => by rw [List.mem_singleton.1 hs]; exact h, fun s hs g hg => by rw [List.mem_singleton.1 hs] at hg; exact (rowLt h hg).2, List.pairwise_singleton _ _⟩
end Go.Proofs.YthmmbldhbdnfpaaGreatDoor

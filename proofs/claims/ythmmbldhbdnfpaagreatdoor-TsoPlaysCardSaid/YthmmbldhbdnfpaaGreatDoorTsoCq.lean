/- Package tso: a machine while it is copied: how the copy lies. -/
import Derived.Test.YthmmbldhbdnfpaaGreatDoorMTsoU
namespace Go.Proofs.YthmmbldhbdnfpaaGreatDoor
open Go.RowKit
set_option linter.unusedVariables false
set_option linter.unusedSimpArgs false

variable {w w' : World} {own own' : Nat → Nat} {mm : MM} {xs ys : List TX} {mv tv ev : Value} {k b' : Nat}

/-- the copy, k of its threads done; ys: its threads as they lie -/
structure CpAt (w0 w' : World) (own : Nat → Nat) (mm : MM) (xs ys : List TX) (k b' : Nat) (mv tv ev : Value) : Prop where
  blk : w'.heap[b']? = some (.cells #[.bool true, mv, tv, ev] 103 (0, 0))
  bT : own b' = 1
  mem : w'.ownsRow w0.heap.size 2 1 mv mm.mem.length (mm.mem.flatMap encI)
  memT : ∀ g, mv.ownBlock = some g → own g = 2
  ths : w'.ownsRow w0.heap.size 112 13 tv ys.length (ys.flatMap encX)
  thsT : ∀ g, tv.ownBlock = some g → own g = 3
  evs : w'.ownsRow w0.heap.size 154 4 ev mm.evs.length (mm.evs.flatMap encEv)
  evsT : ∀ g, ev.ownBlock = some g → own g = 4
  len : ys.length = xs.length
  done : ∀ (i : Nat) x, i < k → xs[i]? = some x → ∃ y, ys[i]? = some y ∧ y.th = x.th ∧ y.cv = x.cv ∧ (∃ c f, Ring w' y.bb x.th.wait c f) ∧ own y.bb = 6 + 3 * i ∧
    w'.ownsRow w0.heap.size 2 1 y.ov x.th.out.length (x.th.out.flatMap encI) ∧ ∀ g, y.ov.ownBlock = some g → own g = 7 + 3 * i
  rest : ∀ (i : Nat), k ≤ i → ys[i]? = xs[i]?
  low : ∀ g, own g ≠ 0 → w0.heap.size ≤ g
  fresh : ∀ g, w'.heap.size ≤ g → own g = 0
  old : Below w0.heap.size w0 w'

theorem CpAt.keep {w0 : World} (h : CpAt w0 w own mm xs ys k b' mv tv ev) (hk : ∀ g, own g ≠ 0 → g < w.heap.size → w'.heap[g]? = w.heap[g]?) (ho : Below w0.heap.size w0 w') (hs : w.heap.size ≤ w'.heap.size) : CpAt w0 w' own mm xs ys k b' mv tv ev :=
  ⟨(hk b' (by rw [h.bT]; decide) (lt_of_block h.blk)).trans h.blk, h.bT, ownRow_keep h.mem fun g hg hl => hk g (by rw [h.memT g hg]; decide) hl, h.memT, ownRow_keep h.ths fun g hg hl => hk g (by rw [h.thsT g hg]; decide) hl, h.thsT,
    ownRow_keep h.evs fun g hg hl => hk g (by rw [h.evsT g hg]; decide) hl, h.evsT, h.len, fun i x hi hx => by
      obtain ⟨y, h1, h2, h3, ⟨c, f, h4⟩, h5, h6, h7⟩ := h.done i x hi hx
      exact ⟨y, h1, h2, h3, ⟨c, f, h4.keep (hk _ (by rw [h5]; omega) h4.lt)⟩, h5, ownRow_keep h6 fun g hg hl => hk g (by rw [h7 g hg]; omega) hl, h7⟩,
    h.rest, h.low, fun g hg => h.fresh g (by omega), ho⟩
theorem CpAt.below {w0 : World} (h : CpAt w0 w own mm xs ys k b' mv tv ev) (hb : Below w.heap.size w w') : CpAt w0 w' own mm xs ys k b' mv tv ev :=
  h.keep (fun g _ hl => hb.block g hl) (h.old.trans (hb.mono h.old.size)) hb.size

def cp0 (b' : Nat) (mv tv ev : Value) (g : Nat) : Nat := if g = b' then 1 else if mv.ownBlock = some g then 2 else if tv.ownBlock = some g then 3 else if ev.ownBlock = some g then 4 else 0
/-- rows and the machine's own block have been made -/
theorem CpAt.start {w0 w1 w2 w3 : World} (h1 : w1.ownsRow w0.heap.size 2 1 mv mm.mem.length (mm.mem.flatMap encI)) (h2 : w2.ownsRow w1.heap.size 154 4 ev mm.evs.length (mm.evs.flatMap encEv)) (h3 : w3.ownsRow w2.heap.size 112 13 tv xs.length (xs.flatMap encX))
    (b1 : Below w0.heap.size w0 w1) (b2 : Below w1.heap.size w1 w2) (b3 : Below w2.heap.size w2 w3) : CpAt w0 (w3.alloc (.cells #[.bool true, mv, tv, ev] 103)) (cp0 w3.heap.size mv tv ev) mm xs xs 0 w3.heap.size mv tv ev := by
  have s1 := b1.size
  have s2 := b2.size
  have s3 := b3.size
  have b13 := bnext b2 b3
  have bA : Below w3.heap.size w3 (w3.alloc (.cells #[.bool true, mv, tv, ev] 103)) := (Below.refl _ _).alloc (Nat.le_refl _) _
  have l1 : ∀ g, mv.ownBlock = some g → w0.heap.size ≤ g ∧ g < w1.heap.size := fun g hg => rowLt h1 hg
  have l2 : ∀ g, ev.ownBlock = some g → w1.heap.size ≤ g ∧ g < w2.heap.size := fun g hg => rowLt h2 hg
  have l3 : ∀ g, tv.ownBlock = some g → w2.heap.size ≤ g ∧ g < w3.heap.size := fun g hg => rowLt h3 hg
  refine ⟨block_new _ _, by simp [cp0], ownRow_keep h1 fun g hg hl => (bnext b13 bA).block g hl, fun g hg => ?_, ownsRow_mono (ownRow_keep h3 fun g hg hl => bA.block g hl) (by omega), fun g hg => ?_, ownsRow_mono (ownRow_keep h2 fun g hg hl => (bnext b3 bA).block g hl) (by omega), fun g hg => ?_, rfl, fun i x hi => absurd hi (by omega), fun i _ => rfl, fun g hg => ?_, fun g hg => ?_, bnext (bnext b1 b13) bA⟩
  · have := l1 g hg
    unfold cp0
    rw [if_neg (by omega), if_pos hg]
  · have := l3 g hg
    unfold cp0
    rw [if_neg (by omega), if_neg (fun e => by have := l1 g e; omega), if_pos hg]
  · have := l2 g hg
    unfold cp0
    rw [if_neg (by omega), if_neg (fun e => by have := l1 g e; omega), if_neg (fun e => by have := l3 g e; omega), if_pos hg]
  · unfold cp0 at hg
    split at hg
    · omega
    · split at hg
      · rename_i e; exact (l1 g e).1
      · split at hg
        · rename_i e; have := l3 g e; omega
        · split at hg
          · rename_i e; have := l2 g e; omega
          · exact absurd rfl hg
  · simp at hg
    unfold cp0
    rw [if_neg (by omega), if_neg (fun e => by have := l1 g e; omega), if_neg (fun e => by have := l3 g e; omega), if_neg (fun e => by have := l2 g e; omega)]

/-- tags of a thread's new parts -/
def cpT (own : Nat → Nat) (rb : Nat) (ov : Value) (k n : Nat) (g : Nat) : Nat := if g < n then own g else if g = rb then 6 + 3 * k else if ov.ownBlock = some g then 7 + 3 * k else 0
theorem cpT_old {rb n g : Nat} {ov : Value} (h : g < n) : cpT own rb ov k n g = own g := if_pos h

/-- one more thread is done -/
theorem CpAt.next {w0 : World} {x : TX} {rb : Nat} {ov : Value} (h : CpAt w0 w own mm xs ys k b' mv tv ev) (hx : xs[k]? = some x) (hk : ∀ g, g < w.heap.size → tv.ownBlock ≠ some g → w'.heap[g]? = w.heap[g]?)
    (ht : w'.ownsRow w0.heap.size 112 13 tv ys.length ((ys.set k { x with bb := rb, ov := ov }).flatMap encX)) (hr : ∃ c f, Ring w' rb x.th.wait c f) (hrb : w.heap.size ≤ rb)
    (ho : w'.ownsRow w0.heap.size 2 1 ov x.th.out.length (x.th.out.flatMap encI)) (hov : ∀ g, ov.ownBlock = some g → w.heap.size ≤ g ∧ g ≠ rb) (hb : Below w0.heap.size w0 w') (hs : w.heap.size ≤ w'.heap.size) :
    CpAt w0 w' (cpT own rb ov k w.heap.size) mm xs (ys.set k { x with bb := rb, ov := ov }) (k + 1) b' mv tv ev := by
  have hlt := (List.getElem?_eq_some_iff.1 hx).1
  have hne : ∀ g, own g ≠ 3 → tv.ownBlock ≠ some g := fun g h3 e => h3 (h.thsT g e)
  have hkk : ∀ g, own g ≠ 3 → g < w.heap.size → w'.heap[g]? = w.heap[g]? := fun g h3 hl => hk g hl (hne g h3)
  have hc : ∀ g, g < w.heap.size → cpT own rb ov k w.heap.size g = own g := fun g hl => cpT_old hl
  refine ⟨(hkk b' (by rw [h.bT]; decide) (lt_of_block h.blk)).trans h.blk, by rw [hc _ (lt_of_block h.blk)]; exact h.bT, ownRow_keep h.mem fun g hg hl => hkk g (by rw [h.memT g hg]; decide) hl, fun g hg => by rw [hc _ (rowLt h.mem hg).2]; exact h.memT g hg,
    by rw [List.length_set]; exact ht, fun g hg => by rw [hc _ (rowLt h.ths hg).2]; exact h.thsT g hg, ownRow_keep h.evs fun g hg hl => hkk g (by rw [h.evsT g hg]; decide) hl, fun g hg => by rw [hc _ (rowLt h.evs hg).2]; exact h.evsT g hg, by rw [List.length_set]; exact h.len,
    fun i z hi hz => ?_, fun i hi => ?_, fun g hg => ?_, fun g hg => ?_, hb⟩
  · by_cases e : i = k
    · subst e
      rw [hx] at hz
      cases hz
      refine ⟨{ x with bb := rb, ov := ov }, by rw [List.getElem?_set_self (by rw [h.len]; exact hlt)], rfl, rfl, hr, ?_, ho, fun g hg => ?_⟩
      · show cpT own rb ov i w.heap.size rb = _
        unfold cpT
        rw [if_neg (by omega), if_pos rfl]
      · have h1 := hov g hg
        unfold cpT
        rw [if_neg (by omega), if_neg h1.2, if_pos hg]
    · obtain ⟨y, h1, h2, h3, ⟨c, f, h4⟩, h5, h6, h7⟩ := h.done i z (by omega) hz
      refine ⟨y, by rw [List.getElem?_set_ne (fun e' => e e'.symm)]; exact h1, h2, h3, ⟨c, f, h4.keep (hkk _ (by rw [h5]; omega) h4.lt)⟩, by rw [hc _ h4.lt]; exact h5, ownRow_keep h6 fun g hg hl => hkk g (by rw [h7 g hg]; omega) hl, fun g hg => by rw [hc _ (rowLt h6 hg).2]; exact h7 g hg⟩
  · rw [List.getElem?_set_ne (by omega)]
    exact h.rest i (by omega)
  · unfold cpT at hg
    split at hg
    · exact h.low g hg
    · have := h.old.size; omega
  · have hrl := hr
    obtain ⟨c, f, hrl⟩ := hrl
    unfold cpT
    rw [if_neg (by omega), if_neg (by have := hrl.lt; omega)]
    split
    · rename_i e
      have := (rowLt ho e).2
      omega
    · rfl

/-- tags of the whole copy: its code lies where the old one's lies -/
def wholeT (own0 own : Nat → Nat) (n : Nat) (g : Nat) : Nat := if g < n then (if 5 ≤ own0 g ∧ own0 g % 3 = 2 then own0 g else 0) else own g
/-- all threads are done: it is a machine -/
theorem CpAt.whole {w0 : World} {base b : Nat} {own0 : Nat → Nat} {mv0 tv0 ev0 : Value} (h0 : MAt w0 base b own0 mm xs mv0 tv0 ev0) (h : CpAt w0 w own mm xs ys xs.length b' mv tv ev) : MAt w base b' (wholeT own0 own w0.heap.size) mm ys mv tv ev := by
  have hbs := h0.base_le
  have hw : ∀ g, own g ≠ 0 → wholeT own0 own w0.heap.size g = own g := fun g hg => if_neg (by have := h.low g hg; omega)
  have hsame : ys.map TX.th = xs.map TX.th := by
    refine List.ext_getElem? fun i => ?_
    rw [List.getElem?_map, List.getElem?_map]
    by_cases hi : i < xs.length
    · obtain ⟨x, hx⟩ := some_at hi
      obtain ⟨y, h1, h2, -⟩ := h.done i x hi hx
      rw [h1, hx]
      simp [h2]
    · rw [List.getElem?_eq_none (by rw [h.len]; omega), List.getElem?_eq_none (by omega)]
  refine ⟨h.blk, ⟨by have := h.low b' (by rw [h.bT]; decide); omega, by rw [hw _ (by rw [h.bT]; decide)]; exact h.bT⟩, ownsRow_mono h.mem hbs, fun g hg => by rw [hw _ (by rw [h.memT g hg]; decide)]; exact h.memT g hg, ownsRow_mono h.ths hbs, fun g hg => by rw [hw _ (by rw [h.thsT g hg]; decide)]; exact h.thsT g hg,
    ownsRow_mono h.evs hbs, fun g hg => by rw [hw _ (by rw [h.evsT g hg]; decide)]; exact h.evsT g hg, h0.same.trans hsame.symm, fun i y hy => ?_, fun g hg => ?_⟩
  · have hi : i < xs.length := by rw [← h.len]; exact (List.getElem?_eq_some_iff.1 hy).1
    obtain ⟨x, hx⟩ := some_at hi
    obtain ⟨y', h1, h2, h3, h4, h5, h6, h7⟩ := h.done i x hi hx
    rw [hy] at h1
    cases h1
    have ht := h0.th i x hx
    refine ⟨by rw [h2, h3]; exact Rd.below ht.code h.old, fun g hn hg => ?_, by rw [h2]; exact h4, ⟨by have := h.low _ (show own y.bb ≠ 0 by rw [h5]; omega); omega, by rw [hw _ (by rw [h5]; omega)]; exact h5⟩, by rw [h2]; exact ownsRow_mono h6 hbs, fun g hg => by rw [hw _ (by rw [h7 g hg]; omega)]; exact h7 g hg⟩
    rw [h2] at hn
    rw [h3] at hg
    have hc := ht.codeT g hn hg
    refine ⟨hc.1, ?_⟩
    obtain ⟨g1, ao, cap, g2, g3, g4⟩ := ht.code
    obtain ⟨bb, off, rfl, hb, _⟩ := g4 (List.length_pos_iff.2 hn)
    rw [g2] at hg
    simp only [Value.ownBlock, Option.some.injEq] at hg
    subst hg
    unfold wholeT
    rw [if_pos hb, if_pos (by rw [hc.2]; omega)]
    exact hc.2
  · unfold wholeT
    have := h.old.size
    rw [if_neg (by omega)]
    exact h.fresh g hg
end Go.Proofs.YthmmbldhbdnfpaaGreatDoor

/- The document's machine while a copy of it is made: how the copy lies. -/
import Derived.Test.YthmmbldhbdnfpaaGreatDoorRefJ
import Derived.Test.YthmmbldhbdnfpaaGreatDoorMRefL
namespace Go.Proofs.YthmmbldhbdnfpaaGreatDoor
open Go.RowKit
set_option linter.unusedVariables false
set_option linter.unusedSimpArgs false

variable {w w' : World} {base b : Nat} {own own' : Nat → Nat} {mm : MM} {xs : List RX} {mv tv ev : Value}

def ownC (B : Nat) (mv ev : Value) : Nat → Nat := fun k => if k = B then 1 else if mv.ownBlock = some k then 2 else if ev.ownBlock = some k then 4 else 0
theorem RAt.start2 {w3 : World} {base B : Nat} {mem : List Int} {evs : List Ev} {mv ev : Value} (hB : w3.heap[B]? = some (.cells #[mv, .slice none 0 0, ev] 115 (0, 0))) (h1 : base ≤ B)
    (hm : w3.ownsRow base 2 1 mv mem.length (mem.flatMap encI)) (he : w3.ownsRow base 154 4 ev evs.length (evs.flatMap encEv)) (hmB : ∀ g, mv.ownBlock = some g → g ≠ B) (heB : ∀ g, ev.ownBlock = some g → g ≠ B ∧ mv.ownBlock ≠ some g) :
    RAt w3 base B (ownC B mv ev) ⟨mem, [], evs⟩ [] mv (.slice none 0 0) ev := by
  have l1 := lt_of_block hB
  refine ⟨hB, ⟨h1, by unfold ownC; rw [if_pos rfl]⟩, hm, fun g hg => ?_, World.ownsRow_nil _ _ _ _, (fun g hg => by cases hg), he, fun g hg => ?_, rfl, (fun i x hx => by simp at hx), fun k hk => ?_, fun k hk => ?_⟩
  · unfold ownC
    rw [if_neg (hmB g hg), if_pos hg]
  · unfold ownC
    rw [if_neg (heB g hg).1, if_neg (heB g hg).2, if_pos hg]
  · unfold ownC
    rw [if_neg (by omega), if_neg (fun e => by have := (rowLt hm e).2; omega), if_neg (fun e => by have := (rowLt he e).2; omega)]
  · unfold ownC at hk
    split at hk
    · omega
    · split at hk
      · rename_i e; exact (rowLt hm e).1
      · split at hk
        · rename_i e; exact (rowLt he e).1
        · exact absurd rfl hk

/-- new blocks are tagged: the threads', a thread's stores that wait, what it told -/
def own3 (own : Nat → Nat) (n : Nat) (tv wv ov : Value) (i : Nat) : Nat → Nat := fun k =>
  if k < n then own k else if tv.ownBlock = some k then 3 else if wv.ownBlock = some k then 6 + 3 * i else if ov.ownBlock = some k then 7 + 3 * i else 0
theorem own3_old {n : Nat} {tv wv ov : Value} {i k : Nat} (h : k < n) : own3 own n tv wv ov i k = own k := if_pos h

theorem RAt.push2 (h : RAt w base b own mm xs mv tv ev) (hc : Chg (fun k => tv.ownBlock = some k) w w') {y : RX} {tv' : Value} (hcode : RdT encOp w' 6 y.cv y.th.code) (hcn : ∀ g, y.th.code ≠ [] → y.cv.ownBlock = some g → g < base)
    (hwait : CutRow w' base 105 2 y.wv y.th.wait.length (y.th.wait.flatMap encCell)) (hwn : ∀ g, y.wv.ownBlock = some g → w.heap.size ≤ g)
    (hout : w'.ownsRow base 2 1 y.ov y.th.out.length (y.th.out.flatMap encI)) (hon : ∀ g, y.ov.ownBlock = some g → w.heap.size ≤ g ∧ y.wv.ownBlock ≠ some g)
    (htv : w'.ownsRow base 117 13 tv' (xs.length + 1) ((xs ++ [y]).flatMap encR)) (htn : ∀ g, tv'.ownBlock = some g → tv.ownBlock = some g ∨ (w.heap.size ≤ g ∧ y.wv.ownBlock ≠ some g ∧ y.ov.ownBlock ≠ some g)) :
    RAt (w'.setCell ⟨b, 1, none⟩ tv') base b (own3 own w.heap.size tv' y.wv y.ov xs.length) { mm with ths := mm.ths ++ [y.th] } (xs ++ [y]) mv tv' ev := by
  have hbl := h.lt
  have hk : ∀ g, own g ≠ 3 → own g ≠ 1 → g < w.heap.size → (w'.setCell ⟨b, 1, none⟩ tv').heap[g]? = w.heap[g]? := fun g h3 h1 hl => by
    rw [Below.heap_setCell _ _ _ _ (fun e => h1 (by rw [e]; exact h.bT.2))]
    exact hc.block g hl fun e => h3 (h.thsT g e)
  have hb1 := chgblk hc h.blk (fun hk => by have h1 := h.thsT _ hk; rw [h.bT.2] at h1; exact absurd h1 (by decide))
  have hset := block_setCell (o := 1) tv' hb1
  have hsz := hc.size
  have hbs := h.base_le
  have ho : ∀ k, k < w.heap.size → own3 own w.heap.size tv' y.wv y.ov xs.length k = own k := fun k hk => own3_old hk
  have hlen : (xs ++ [y]).length = xs.length + 1 := by simp
  have htb : ∀ g, tv'.ownBlock = some g → g ≠ b := fun g hg e => by
    rcases htn g hg with e' | e'
    · have := h.thsT g e'; rw [e, h.bT.2] at this; omega
    · omega
  have hout' : ∀ g, w.heap.size ≤ g → (w'.setCell ⟨b, 1, none⟩ tv').heap[g]? = w'.heap[g]? := fun g hg => Below.heap_setCell _ _ _ _ (fun e => by simp only at e; omega)
  refine ⟨hset, ⟨h.bT.1, by rw [ho _ hbl]; exact h.bT.2⟩, ownRow_keep h.mem fun g hg hl => hk g (by rw [h.memT g hg]; omega) (by rw [h.memT g hg]; omega) hl, fun g hg => by rw [ho _ (rowLt h.mem hg).2]; exact h.memT g hg,
    by rw [hlen]; exact ownRow_keep htv fun g hg _ => Below.heap_setCell _ _ _ _ (htb g hg), fun g hg => ?_,
    ownRow_keep h.evs fun g hg hl => hk g (by rw [h.evsT g hg]; omega) (by rw [h.evsT g hg]; omega) hl, fun g hg => by rw [ho _ (rowLt h.evs hg).2]; exact h.evsT g hg,
    by simp [h.same], fun i x hx => ?_, fun k hk' => ?_, fun k hk' => ?_⟩
  · rcases Nat.lt_or_ge g w.heap.size with e | e
    · rw [ho _ e]
      rcases htn g hg with q | q
      · exact h.thsT g q
      · omega
    · unfold own3
      rw [if_neg (by omega), if_pos hg]
  · rcases Nat.lt_or_ge i xs.length with hi | hi
    · rw [List.getElem?_append_left hi] at hx
      exact (h.th i x hx).keep ho fun g hg hl => by
        rcases hg with e | e | e
        · exact hk g (by rw [h.zero e]; decide) (by rw [h.zero e]; decide) hl
        · exact hk g (by omega) (by omega) hl
        · exact hk g (by omega) (by omega) hl
    · have hi' : i = xs.length := by have := (List.getElem?_eq_some_iff.1 hx).1; rw [hlen] at this; omega
      subst hi'
      simp at hx
      subst hx
      refine ⟨hcode.keepN fun g hn hg _ => Below.heap_setCell _ _ _ _ (fun e => by have h1 := hcn g hn hg; have h2 := h.bT.1; simp only at e; omega), hcn, hwait.keep fun g hg _ => hout' g (hwn g hg), fun g hg => ?_, ownRow_keep hout fun g hg _ => hout' g (hon g hg).1, fun g hg => ?_⟩
      · have hne : tv'.ownBlock ≠ some g := fun e => by
          rcases htn g e with q | q
          · have := (rowLt h.ths q).2; have := hwn g hg; omega
          · exact q.2.1 hg
        unfold own3
        rw [if_neg (by have := hwn g hg; omega), if_neg hne, if_pos hg]
      · have hne : tv'.ownBlock ≠ some g := fun e => by
          rcases htn g e with q | q
          · have := (rowLt h.ths q).2; have := (hon g hg).1; omega
          · exact q.2.2 hg
        unfold own3
        rw [if_neg (by have := (hon g hg).1; omega), if_neg hne, if_neg (hon g hg).2, if_pos hg]
  · rw [heapSize_setCell] at hk'
    unfold own3
    rw [if_neg (by omega), if_neg (fun e => by have := (rowLt htv e).2; omega), if_neg (fun e => by have := (hwait.lt e).2; omega), if_neg (fun e => by have := (rowLt hout e).2; omega)]
  · rcases Nat.lt_or_ge k w.heap.size with e | e
    · rw [ho _ e] at hk'; exact h.low k hk'
    · omega
end Go.Proofs.YthmmbldhbdnfpaaGreatDoor

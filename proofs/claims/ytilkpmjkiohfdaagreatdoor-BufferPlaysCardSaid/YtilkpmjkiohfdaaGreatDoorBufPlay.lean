/- BufferPlays: how its loop stands; what each thing that is done leaves. -/
import Derived.Test.YtilkpmjkiohfdaaGreatDoorBufRef
import Derived.Test.YtilkpmjkiohfdaaGreatDoorBufAlv
import Derived.Test.YtilkpmjkiohfdaaGreatDoorBookApartCell
namespace Go.Proofs.YtilkpmjkiohfdaaGreatDoor
open Go.RowKit
set_option linter.unusedVariables false
set_option linter.unusedSimpArgs false

/-- the book, as its block lies -/
def BookAt (w : World) (kb : Nat) (f : Nat) (hv : Value) (n : Nat) (C : Array Value) : Prop :=
  w.heap[kb]? = some (.cells C 60 (0, 0)) ∧ C.size = 28 ∧ C[f]? = some hv ∧ C[0]? = some (.int .i64 n) ∧ ∀ i, 0 < i → i < 28 → i ≠ f → C[i]? = some (.slice none 0 0)

/-- how the loop stands: two rings (b, the other in b2), the document's buffer (wb), the book (kb); all rows lie behind them -/
structure PlaySt (w wr : World) (b b2 wb kb : Nat) (q r : List (Int × Int)) (v hv : Value) (es : List EntCell) : Prop where
  ord : w.heap.size ≤ b ∧ b < b2 ∧ b2 < wb ∧ wb < kb ∧ kb < wr.heap.size
  ring : ∃ c f, Ring wr b q c f
  ring2 : ∃ c f, Ring wr b2 [] c f
  ref : RBuf wr (kb + 1) wb r v
  book : ∃ C, BookAt wr kb 5 hv es.length C
  kind : KindCell wr (kb + 1) kb hv es
  sep : ∀ g, v.ownBlock = some g → ¬ ownsCell hv es g
  lens : ∀ (i : Nat) e, es[i]? = some e → e.len ≤ 64
  bel : Below w.heap.size w wr

theorem PlaySt.ringStep {w wr w' : World} {b b2 wb kb : Nat} {q q' r : List (Int × Int)} {v hv : Value} {es : List EntCell} (h : PlaySt w wr b b2 wb kb q r v hv es) (hc : Chg (fun k => k = b) wr w') (hr : ∃ c f, Ring w' b q' c f) : PlaySt w w' b b2 wb kb q' r v hv es := by
  obtain ⟨o1, o2, o3, o4, o5⟩ := h.ord
  obtain ⟨c2, f2, h2⟩ := h.ring2
  obtain ⟨C, hC, hrest⟩ := h.book
  have hsz := hc.size
  refine ⟨⟨o1, o2, o3, o4, by omega⟩, hr, ⟨c2, f2, h2.keep (hc.block _ h2.lt (by omega))⟩, ⟨chgblk hc h.ref.blk (by omega), ownsRow_chg h.ref.own hc (fun g hg e => by have := rowLt h.ref.own hg; omega), h.ref.ne⟩,
    ⟨C, chgblk hc hC (by omega), hrest⟩, h.kind.keep (fun g hg hlt => hc.block g hlt (fun e => by have := h.kind.from hg; omega)), h.sep, h.lens, Chg.below h.bel (by omega) hc (by rintro k rfl; exact o1)⟩

theorem PlaySt.next {w wr w' : World} {b b2 wb kb : Nat} {q r : List (Int × Int)} {v hv : Value} {es : List EntCell} (h : PlaySt w wr b b2 wb kb q r v hv es) (hb : Below wr.heap.size wr w') : PlaySt w w' b b2 wb kb q r v hv es := by
  obtain ⟨c, f, hr⟩ := h.ring
  exact h.ringStep (Chg.of_below hb) ⟨c, f, hr.below hb⟩
theorem PlaySt.alloc {w wr : World} {b b2 wb kb : Nat} {q r : List (Int × Int)} {v hv : Value} {es : List EntCell} (h : PlaySt w wr b b2 wb kb q r v hv es) (o : Obj) : PlaySt w (wr.alloc o) b b2 wb kb q r v hv es := h.next ((Below.refl _ _).alloc (Nat.le_refl _) _)
theorem PlaySt.drewN {w wr : World} {b b2 wb kb : Nat} {q r : List (Int × Int)} {v hv : Value} {es : List EntCell} (h : PlaySt w wr b b2 wb kb q r v hv es) (n : Nat) : PlaySt w (wr.drewN n) b b2 wb kb q r v hv es := h.next (below_drewN (Below.refl _ _) n)

theorem PlaySt.refStep {w wr w' : World} {b b2 wb kb : Nat} {q r r' : List (Int × Int)} {v hv : Value} {es : List EntCell} (h : PlaySt w wr b b2 wb kb q r v hv es) (hr : RPost wr w' (kb + 1) wb v r') : ∃ v', PlaySt w w' b b2 wb kb q r' v' hv es := by
  obtain ⟨v', hbuf, hc, hf⟩ := hr
  obtain ⟨o1, o2, o3, o4, o5⟩ := h.ord
  obtain ⟨c1, f1, h1⟩ := h.ring
  obtain ⟨c2, f2, h2⟩ := h.ring2
  obtain ⟨C, hC, hrest⟩ := h.book
  have hsz := hc.size
  have hv : ∀ g, v.ownBlock = some g → kb + 1 ≤ g := fun g hg => (rowLt h.ref.own hg).1
  refine ⟨v', ⟨o1, o2, o3, o4, by omega⟩, ⟨c1, f1, h1.keep (hc.block _ h1.lt (fun e => by rcases e with e | e; omega; have := hv _ e; omega))⟩, ⟨c2, f2, h2.keep (hc.block _ h2.lt (fun e => by rcases e with e | e; omega; have := hv _ e; omega))⟩, hbuf,
    ⟨C, chgblk hc hC (fun e => by rcases e with e | e; omega; have := hv _ e; omega), hrest⟩, h.kind.keep (fun g hg hlt => hc.block g hlt (fun e => ?_)), fun g hg ho => ?_, h.lens, Chg.below h.bel (by omega) hc (fun k hk => ?_)⟩
  · have := h.kind.from hg
    rcases e with e | e
    · omega
    · exact h.sep g e hg
  · rcases hf g hg with e | e
    · exact h.sep g e ho
    · have := h.kind.from ho; omega
  · rcases hk with rfl | e
    · omega
    · have := hv _ e; omega

theorem PlaySt.keepStep {w wr w' : World} {b b2 wb kb : Nat} {q r : List (Int × Int)} {v hv lv : Value} {es : List EntCell} {C : Array Value} {n : Nat} (h : PlaySt w wr b b2 wb kb q r v hv es) (hC : BookAt wr kb 5 hv es.length C) (hn : n ≤ 64)
    (hk : KeptCell wr w' (kb + 1) kb C es.length hv (es ++ [⟨lv, es.length, n⟩])) (hl : ∀ g, lv.ownBlock = some g → v.ownBlock ≠ some g) : ∃ hv', PlaySt w w' b b2 wb kb q r v hv' (es ++ [⟨lv, es.length, n⟩]) := by
  obtain ⟨hv', hblk, hkind, hc, hf⟩ := hk
  obtain ⟨o1, o2, o3, o4, o5⟩ := h.ord
  obtain ⟨c1, f1, h1⟩ := h.ring
  obtain ⟨c2, f2, h2⟩ := h.ring2
  obtain ⟨-, s1, s2, s3, s4⟩ := hC
  have hsz := hc.size
  have hh : ∀ g, hv.ownBlock = some g → kb + 1 ≤ g := fun g hg => (rowLt h.kind.row hg).1
  refine ⟨hv', ⟨o1, o2, o3, o4, by omega⟩, ⟨c1, f1, h1.keep (hc.block _ h1.lt (fun e => by rcases e with e | e; omega; have := hh _ e; omega))⟩, ⟨c2, f2, h2.keep (hc.block _ h2.lt (fun e => by rcases e with e | e; omega; have := hh _ e; omega))⟩,
    ⟨chgblk hc h.ref.blk (fun e => by rcases e with e | e; omega; have := hh _ e; omega), ownsRow_chg h.ref.own hc (fun g hg e => ?_), h.ref.ne⟩, ⟨_, hblk, ?_, ?_, ?_, ?_⟩, hkind, fun g hg ho => ?_, fun i e he => ?_, Chg.below h.bel (by omega) hc (fun k hk => ?_)⟩
  · rcases e with rfl | e
    · have := (rowLt h.ref.own hg).1; omega
    · exact h.sep g hg (.inl e)
  · rw [Array.size_setIfInBounds, Array.size_setIfInBounds]; exact s1
  · rw [Array.getElem?_setIfInBounds_ne (by decide), Array.getElem?_setIfInBounds_self, if_pos (by omega)]
  · rw [Array.getElem?_setIfInBounds_self, if_pos (by rw [Array.size_setIfInBounds]; omega)]
    simp
  · intro i h0 h1 h5
    rw [Array.getElem?_setIfInBounds_ne (by omega), Array.getElem?_setIfInBounds_ne (by omega)]
    exact s4 i h0 h1 h5
  · have hlt := (rowLt h.ref.own hg).2
    rcases ho with e | ⟨i, e, he, hg2⟩
    · rcases hf g e with e | e
      · exact h.sep g hg (.inl e)
      · omega
    · rcases Nat.lt_or_ge i es.length with hi | hi
      · rw [List.getElem?_append_left hi] at he
        exact h.sep g hg (.inr ⟨i, e, he, hg2⟩)
      · rw [List.getElem?_append_right hi] at he
        obtain rfl : e = ⟨lv, es.length, n⟩ := by
          cases hd : i - es.length with
          | zero => rw [hd] at he; simpa using he.symm
          | succ j => rw [hd] at he; simp at he
        exact hl g hg2 hg
  · rcases Nat.lt_or_ge i es.length with hi | hi
    · rw [List.getElem?_append_left hi] at he
      exact h.lens i e he
    · rw [List.getElem?_append_right hi] at he
      obtain rfl : e = ⟨lv, es.length, n⟩ := by
        cases hd : i - es.length with
        | zero => rw [hd] at he; simpa using he.symm
        | succ j => rw [hd] at he; simp at he
      exact hn
  · rcases hk with rfl | e
    · omega
    · have := hh _ e; omega

theorem PlaySt.apart {w wr w' : World} {b b2 wb kb : Nat} {q r : List (Int × Int)} {v hv : Value} {es : List EntCell} (h : PlaySt w wr b b2 wb kb q r v hv es) (hc : Chg (ownsCell hv es) wr w') :
    (∃ c f, Ring w' b q c f) ∧ RBuf w' (kb + 1) wb r v ∧ Below w.heap.size w w' := by
  obtain ⟨o1, o2, o3, o4, o5⟩ := h.ord
  obtain ⟨c1, f1, h1⟩ := h.ring
  refine ⟨⟨c1, f1, h1.keep (hc.block _ h1.lt (fun e => by have := h.kind.from e; omega))⟩, ⟨chgblk hc h.ref.blk (fun e => by have := h.kind.from e; omega), ownsRow_chg h.ref.own hc (fun g hg e => h.sep g hg e), h.ref.ne⟩,
    Chg.below h.bel (by omega) hc (fun k hk => by have := h.kind.from hk; omega)⟩

set_option maxHeartbeats 400000 in
theorem cellsKeep_any {w : World} {base kb : Nat} {hv : Value} {es : List EntCell} {C : Array Value} {cnt : Int} {lo : Option Addr} {n lc : Nat} {cs : List Value} (h : KindCell w base kb hv es) (hb : w.heap[kb]? = some (.cells C 60 (0, 0))) (hc : C[5]? = some hv) (h0 : C[0]? = some (.int .i64 cnt))
    (hcnt : 0 ≤ cnt ∧ cnt ≤ 1000000) (hl : es.length ≤ 1000000) (hown : w.ownsRow base 76 2 (.slice lo n lc) n cs) (hne : ∀ g, (Value.slice lo n lc).ownBlock = some g → hv.ownBlock ≠ some g ∧ g ≠ kb)
    (hlg : ∀ (i g : Nat) e, es[i]? = some e → e.lv.ownBlock = some g → (Value.slice lo n lc).ownBlock ≠ some g) (hbase : base ≤ w.heap.size) :
    Calls Tryz.prog 26 #[.pointer (some ⟨kb, 0, none⟩), .slice lo n lc] w fun r w' => r = .returned (.tuple #[]) ∧ KeptCell w w' base kb C cnt hv (es ++ [⟨.slice lo n lc, cnt, n⟩]) := by
  have HK := hidI (keepCell_any h hb hc h0 hcnt hl hown hne hlg hbase)
  clear h hb hc h0 hcnt hl hown hne hlg hbase
  go_enter Tryz.func26, Tryz.ntmps26
  go_wp2_with fail
  refine HK.out.mono ?_
  rintro e w1 ⟨rfl, hk⟩
  have HK1 := hidI hk
  clear hk
  go_wp2_with fail
  go_end0
  exact ⟨rfl, HK1.out⟩

end Go.Proofs.YtilkpmjkiohfdaaGreatDoor

/- A book over lists of these kinds, as one fact: Wide, Event. (Written by mkbk.py.) -/
import Derived.Test.YtilkpmjkiohfdaaGreatDoorBookApartEventWide
import Derived.Test.YtilkpmjkiohfdaaGreatDoorBookZ
namespace Go.Proofs.YtilkpmjkiohfdaaGreatDoor
open Go.RowKit
set_option linter.unusedVariables false
set_option linter.unusedSimpArgs false

theorem snocGetEventWide {α : Type} {l : List α} {i : Nat} {y z : α} (h : (l ++ [y])[i]? = some z) : z = y ∨ l[i]? = some z := by
  rcases Nat.lt_or_ge i l.length with h1 | h1
  · rw [List.getElem?_append_left h1] at h; exact .inr h
  · rw [List.getElem?_append_right h1] at h
    have := (List.getElem?_eq_some_iff.1 h).1
    simp at this
    obtain rfl : i = l.length := by omega
    simp at h
    exact .inl h.symm

structure BkStEventWide (w : World) (base kb cnt : Nat) (O : Nat → Prop) (C : Array Value) (hWide : Value) (hEvent : Value) (eWide : List EntWide) (eEvent : List EntEvent) : Prop where
  blk : w.heap[kb]? = some (.cells C 60 (0, 0))
  csz : C.size = 28
  c0 : C[0]? = some (.int .i64 (cnt : Int))
  cWide : C[3]? = some hWide
  cEvent : C[8]? = some hEvent
  cno : (∀ i, 0 < i → i < 28 → i ≠ 3 → i ≠ 8 → C[i]? = some (.slice none 0 0))
  kWide : KindWide w base kb hWide eWide
  nWide : eWide.length ≤ cnt
  lWide : (∀ (i : Nat) e, eWide[i]? = some e → e.len ≤ 1000000)
  oWide : (∀ g, ownsWide hWide eWide g → O g)
  kEvent : KindEvent w base kb hEvent eEvent
  nEvent : eEvent.length ≤ cnt
  lEvent : (∀ (i : Nat) e, eEvent[i]? = some e → e.len ≤ 1000000)
  oEvent : (∀ g, ownsEvent hEvent eEvent g → O g)
  sWideEvent : (∀ g, ownsWide hWide eWide g → ¬ ownsEvent hEvent eEvent g)
  cm : cnt ≤ 1000000
/-- the book: cnt lists have been kept; whatever block it owns is in O -/
def BkEventWide (w : World) (base kb cnt : Nat) (O : Nat → Prop) : Prop := ∃ C hWide hEvent eWide eEvent, BkStEventWide w base kb cnt O C hWide hEvent eWide eEvent

theorem BkEventWide.nil {w : World} {base kb : Nat} {O : Nat → Prop} (h : w.heap[kb]? = some (.cells zeroBook 60 (0, 0))) : BkEventWide w base kb 0 O :=
  ⟨zeroBook, .slice none 0 0, .slice none 0 0, [], [], h, zbook_size, zbook_0, zbook_at 3 (by decide) (by decide), zbook_at 8 (by decide) (by decide), fun i h0 h1 _ _ => zbook_at i h0 h1,
    nilWide _ _ _, by simp, fun i e he => by simp at he, fun g hg => by rcases hg with hg | ⟨i, e, he, hg⟩ <;> first | (simp [Value.ownBlock] at hg; done) | (simp at he; done),
    nilEvent _ _ _, by simp, fun i e he => by simp at he, fun g hg => by rcases hg with hg | ⟨i, e, he, hg⟩ <;> first | (simp [Value.ownBlock] at hg; done) | (simp at he; done),
    fun g hg _ => by rcases hg with hg | ⟨i, e, he, hg⟩ <;> first | (simp [Value.ownBlock] at hg; done) | (simp at he; done),
    by omega⟩

theorem BkEventWide.keep {w w' : World} {base kb cnt : Nat} {O : Nat → Prop} (h : BkEventWide w base kb cnt O) (hk : ∀ g, g = kb ∨ O g → g < w.heap.size → w'.heap[g]? = w.heap[g]?) : BkEventWide w' base kb cnt O := by
  obtain ⟨C, hWide, hEvent, eWide, eEvent, h⟩ := h
  exact ⟨C, hWide, hEvent, eWide, eEvent, (hk kb (.inl rfl) (lt_of_block h.blk)).trans h.blk, h.csz, h.c0, h.cWide, h.cEvent, h.cno, h.kWide.keep (fun g hg hl => hk g (.inr (h.oWide g hg)) hl), h.nWide, h.lWide, h.oWide, h.kEvent.keep (fun g hg hl => hk g (.inr (h.oEvent g hg)) hl), h.nEvent, h.lEvent, h.oEvent, h.sWideEvent, h.cm⟩
theorem BkEventWide.below {w w' : World} {base kb cnt : Nat} {O : Nat → Prop} (h : BkEventWide w base kb cnt O) (hb : Below w.heap.size w w') : BkEventWide w' base kb cnt O := h.keep fun g _ hl => hb.block g hl
theorem BkEventWide.wide {w : World} {base kb cnt : Nat} {O O' : Nat → Prop} (h : BkEventWide w base kb cnt O) (ho : ∀ g, O g → O' g) : BkEventWide w base kb cnt O' := by
  obtain ⟨C, hWide, hEvent, eWide, eEvent, h⟩ := h
  exact ⟨C, hWide, hEvent, eWide, eEvent, h.blk, h.csz, h.c0, h.cWide, h.cEvent, h.cno, h.kWide, h.nWide, h.lWide, fun g hg => ho g (h.oWide g hg), h.kEvent, h.nEvent, h.lEvent, fun g hg => ho g (h.oEvent g hg), h.sWideEvent, h.cm⟩

theorem bkEventWide_keepWide {w : World} {base kb cnt n lc : Nat} {O : Nat → Prop} {lo : Option Addr} {cs : List Value} (h : BkEventWide w base kb cnt O) (hc : cnt < 1000000) (hn : n ≤ 1000000) (hown : w.ownsRow base 2 1 (.slice lo n lc) n cs) (hfree : ∀ g, (Value.slice lo n lc).ownBlock = some g → ¬ O g ∧ g ≠ kb) (hbase : base ≤ w.heap.size) :
    Calls Tryz.prog 150 #[.pointer (some ⟨kb, 0, none⟩), .slice lo n lc] w fun r w' => r = .returned (.tuple #[]) ∧ BkEventWide w' base kb (cnt + 1) (fun g => O g ∨ w.heap.size ≤ g ∨ (Value.slice lo n lc).ownBlock = some g) ∧ Chg (fun k => k = kb ∨ O k) w w' := by
  obtain ⟨C, hWide, hEvent, eWide, eEvent, h⟩ := h
  refine (keepWide_any h.kWide h.blk h.cWide h.c0 (by omega) (by have := h.nWide; omega) hown (fun g hg => ⟨fun e => (hfree g hg).1 (h.oWide g (.inl e)), (hfree g hg).2⟩) (fun i g e he h1 h2 => (hfree g h2).1 (h.oWide g (.inr ⟨i, e, he, h1⟩))) hbase).mono ?_
  rintro r w' ⟨rfl, hv', hblk, hkind, hchg, hfrom⟩
  have hO : ∀ g, ownsWide hv' (eWide ++ [⟨.slice lo n lc, cnt, n⟩]) g → ownsWide hWide eWide g ∨ w.heap.size ≤ g ∨ (Value.slice lo n lc).ownBlock = some g := by
    rintro g (hg | ⟨i, e, he, hg⟩)
    · exact (hfrom g hg).imp (fun q => .inl q) (fun q => .inl q)
    · rcases snocGetEventWide he with rfl | he
      · exact .inr (.inr hg)
      · exact .inl (.inr ⟨i, e, he, hg⟩)
  have hlt : ∀ g, ownsWide hWide eWide g → g < w.heap.size := fun g hg => (h.kWide.from hg).2
  have hKEvent := h.kEvent.keep (w' := w') (fun g hg hl => hchg.block g hl (fun e => by
    rcases e with e | e
    · exact h.kEvent.notkb (by rw [← e]; exact hg)
    · exact h.sWideEvent g (.inl e) (hg)))
  refine ⟨rfl, ⟨_, hv', hEvent, _, eEvent, hblk, by rw [Array.size_setIfInBounds, Array.size_setIfInBounds]; exact h.csz, ?_, book_setF h.csz (by decide) (by decide), by rw [book_setN (by decide) (by decide)]; exact h.cEvent, fun i h0 h1 qWide qEvent => by rw [book_setN (by omega) qWide]; exact h.cno i h0 h1 qWide qEvent,
    hkind, by rw [List.length_append, List.length_singleton]; have := h.nWide; omega, fun i e he => by rcases snocGetEventWide he with rfl | he; exact hn; exact h.lWide i e he, fun g hg => (hO g hg).imp (h.oWide g) id,
    hKEvent, by have := h.nEvent; omega, h.lEvent, fun g hg => .inl (h.oEvent g hg),
    fun g hx hy => by rcases hO g hx with q | q | q; exact h.sWideEvent g q hy; (have := (h.kEvent.from hy).2; omega); exact (hfree g q).1 (h.oEvent g hy),
    by omega⟩, ⟨hchg.os, hchg.tape, hchg.output, hchg.size, fun k hk hn => hchg.block k hk (fun e => hn (e.imp id (fun q => h.oWide k (.inl q))))⟩⟩
  rw [book_set0 h.csz]
  simp

theorem bkEventWide_keepEvent {w : World} {base kb cnt n lc : Nat} {O : Nat → Prop} {lo : Option Addr} {cs : List Value} (h : BkEventWide w base kb cnt O) (hc : cnt < 1000000) (hn : n ≤ 1000000) (hown : w.ownsRow base 126 4 (.slice lo n lc) n cs) (hfree : ∀ g, (Value.slice lo n lc).ownBlock = some g → ¬ O g ∧ g ≠ kb) (hbase : base ≤ w.heap.size) :
    Calls Tryz.prog 144 #[.pointer (some ⟨kb, 0, none⟩), .slice lo n lc] w fun r w' => r = .returned (.tuple #[]) ∧ BkEventWide w' base kb (cnt + 1) (fun g => O g ∨ w.heap.size ≤ g ∨ (Value.slice lo n lc).ownBlock = some g) ∧ Chg (fun k => k = kb ∨ O k) w w' := by
  obtain ⟨C, hWide, hEvent, eWide, eEvent, h⟩ := h
  refine (keepEvent_any h.kEvent h.blk h.cEvent h.c0 (by omega) (by have := h.nEvent; omega) hown (fun g hg => ⟨fun e => (hfree g hg).1 (h.oEvent g (.inl e)), (hfree g hg).2⟩) (fun i g e he h1 h2 => (hfree g h2).1 (h.oEvent g (.inr ⟨i, e, he, h1⟩))) hbase).mono ?_
  rintro r w' ⟨rfl, hv', hblk, hkind, hchg, hfrom⟩
  have hO : ∀ g, ownsEvent hv' (eEvent ++ [⟨.slice lo n lc, cnt, n⟩]) g → ownsEvent hEvent eEvent g ∨ w.heap.size ≤ g ∨ (Value.slice lo n lc).ownBlock = some g := by
    rintro g (hg | ⟨i, e, he, hg⟩)
    · exact (hfrom g hg).imp (fun q => .inl q) (fun q => .inl q)
    · rcases snocGetEventWide he with rfl | he
      · exact .inr (.inr hg)
      · exact .inl (.inr ⟨i, e, he, hg⟩)
  have hlt : ∀ g, ownsEvent hEvent eEvent g → g < w.heap.size := fun g hg => (h.kEvent.from hg).2
  have hKWide := h.kWide.keep (w' := w') (fun g hg hl => hchg.block g hl (fun e => by
    rcases e with e | e
    · exact h.kWide.notkb (by rw [← e]; exact hg)
    · exact h.sWideEvent g (hg) (.inl e)))
  refine ⟨rfl, ⟨_, hWide, hv', eWide, _, hblk, by rw [Array.size_setIfInBounds, Array.size_setIfInBounds]; exact h.csz, ?_, by rw [book_setN (by decide) (by decide)]; exact h.cWide, book_setF h.csz (by decide) (by decide), fun i h0 h1 qWide qEvent => by rw [book_setN (by omega) qEvent]; exact h.cno i h0 h1 qWide qEvent,
    hKWide, by have := h.nWide; omega, h.lWide, fun g hg => .inl (h.oWide g hg),
    hkind, by rw [List.length_append, List.length_singleton]; have := h.nEvent; omega, fun i e he => by rcases snocGetEventWide he with rfl | he; exact hn; exact h.lEvent i e he, fun g hg => (hO g hg).imp (h.oEvent g) id,
    fun g hy hx => by rcases hO g hx with q | q | q; exact h.sWideEvent g hy q; (have := (h.kWide.from hy).2; omega); exact (hfree g q).1 (h.oWide g hy),
    by omega⟩, ⟨hchg.os, hchg.tape, hchg.output, hchg.size, fun k hk hn => hchg.block k hk (fun e => hn (e.imp id (fun q => h.oEvent k (.inl q))))⟩⟩
  rw [book_set0 h.csz]
  simp

theorem bkEventWide_apart {w : World} {base kb cnt : Nat} {O : Nat → Prop} (h : BkEventWide w base kb cnt O) : Calls Tryz.prog 13 #[.pointer (some ⟨kb, 0, none⟩)] w fun r w' => r = .returned (.bool true) ∧ Chg O w w' := by
  obtain ⟨C, hWide, hEvent, eWide, eEvent, h⟩ := h
  have hcm := h.cm
  refine (apartEventWide_any (M := 1000000) h.kWide h.lWide h.cWide (by have := h.nWide; omega) h.kEvent h.lEvent h.cEvent (by have := h.nEvent; omega) h.sWideEvent (by decide) h.blk h.cno).mono ?_
  rintro r w' ⟨rfl, hc⟩
  exact ⟨rfl, ⟨hc.os, hc.tape, hc.output, hc.size, fun k hk hn => hc.block k hk (fun e => hn (by
    rcases e with e | e
    · exact h.oWide k e
    · exact h.oEvent k e))⟩⟩

end Go.Proofs.YtilkpmjkiohfdaaGreatDoor

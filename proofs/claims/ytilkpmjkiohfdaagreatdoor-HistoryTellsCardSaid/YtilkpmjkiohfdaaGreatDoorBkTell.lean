/- A book over lists of these kinds, as one fact: Number, Event, Attempt. (Written by mkbk.py.) -/
import Derived.Test.YtilkpmjkiohfdaaGreatDoorBookApartTell
import Derived.Test.YtilkpmjkiohfdaaGreatDoorBookZ
namespace Go.Proofs.YtilkpmjkiohfdaaGreatDoor
open Go.RowKit
set_option linter.unusedVariables false
set_option linter.unusedSimpArgs false

theorem snocGetTell {α : Type} {l : List α} {i : Nat} {y z : α} (h : (l ++ [y])[i]? = some z) : z = y ∨ l[i]? = some z := by
  rcases Nat.lt_or_ge i l.length with h1 | h1
  · rw [List.getElem?_append_left h1] at h; exact .inr h
  · rw [List.getElem?_append_right h1] at h
    have := (List.getElem?_eq_some_iff.1 h).1
    simp at this
    obtain rfl : i = l.length := by omega
    simp at h
    exact .inl h.symm

structure BkStTell (w : World) (base kb cnt : Nat) (O : Nat → Prop) (C : Array Value) (hNumber : Value) (hEvent : Value) (hAttempt : Value) (eNumber : List EntNumber) (eEvent : List EntEvent) (eAttempt : List EntAttempt) : Prop where
  blk : w.heap[kb]? = some (.cells C 60 (0, 0))
  csz : C.size = 28
  c0 : C[0]? = some (.int .i64 (cnt : Int))
  cNumber : C[2]? = some hNumber
  cEvent : C[8]? = some hEvent
  cAttempt : C[22]? = some hAttempt
  cno : (∀ i, 0 < i → i < 28 → i ≠ 2 → i ≠ 8 → i ≠ 22 → C[i]? = some (.slice none 0 0))
  kNumber : KindNumber w base kb hNumber eNumber
  nNumber : eNumber.length ≤ cnt
  lNumber : (∀ (i : Nat) e, eNumber[i]? = some e → e.len ≤ 1000000)
  oNumber : (∀ g, ownsNumber hNumber eNumber g → O g)
  kEvent : KindEvent w base kb hEvent eEvent
  nEvent : eEvent.length ≤ cnt
  lEvent : (∀ (i : Nat) e, eEvent[i]? = some e → e.len ≤ 1000000)
  oEvent : (∀ g, ownsEvent hEvent eEvent g → O g)
  kAttempt : KindAttempt w base kb hAttempt eAttempt
  nAttempt : eAttempt.length ≤ cnt
  lAttempt : (∀ (i : Nat) e, eAttempt[i]? = some e → e.len ≤ 1000000)
  oAttempt : (∀ g, ownsAttempt hAttempt eAttempt g → O g)
  sNumberEvent : (∀ g, ownsNumber hNumber eNumber g → ¬ ownsEvent hEvent eEvent g)
  sNumberAttempt : (∀ g, ownsNumber hNumber eNumber g → ¬ ownsAttempt hAttempt eAttempt g)
  sEventAttempt : (∀ g, ownsEvent hEvent eEvent g → ¬ ownsAttempt hAttempt eAttempt g)
  cm : cnt ≤ 1000000
/-- the book: cnt lists have been kept; whatever block it owns is in O -/
def BkTell (w : World) (base kb cnt : Nat) (O : Nat → Prop) : Prop := ∃ C hNumber hEvent hAttempt eNumber eEvent eAttempt, BkStTell w base kb cnt O C hNumber hEvent hAttempt eNumber eEvent eAttempt

theorem BkTell.nil {w : World} {base kb : Nat} {O : Nat → Prop} (h : w.heap[kb]? = some (.cells zeroBook 60 (0, 0))) : BkTell w base kb 0 O :=
  ⟨zeroBook, .slice none 0 0, .slice none 0 0, .slice none 0 0, [], [], [], h, zbook_size, zbook_0, zbook_at 2 (by decide) (by decide), zbook_at 8 (by decide) (by decide), zbook_at 22 (by decide) (by decide), fun i h0 h1 _ _ _ => zbook_at i h0 h1,
    nilNumber _ _ _, by simp, fun i e he => by simp at he, fun g hg => by rcases hg with hg | ⟨i, e, he, hg⟩ <;> first | (simp [Value.ownBlock] at hg; done) | (simp at he; done),
    nilEvent _ _ _, by simp, fun i e he => by simp at he, fun g hg => by rcases hg with hg | ⟨i, e, he, hg⟩ <;> first | (simp [Value.ownBlock] at hg; done) | (simp at he; done),
    nilAttempt _ _ _, by simp, fun i e he => by simp at he, fun g hg => by rcases hg with hg | ⟨i, e, he, hg⟩ <;> first | (simp [Value.ownBlock] at hg; done) | (simp at he; done),
    fun g hg _ => by rcases hg with hg | ⟨i, e, he, hg⟩ <;> first | (simp [Value.ownBlock] at hg; done) | (simp at he; done),
    fun g hg _ => by rcases hg with hg | ⟨i, e, he, hg⟩ <;> first | (simp [Value.ownBlock] at hg; done) | (simp at he; done),
    fun g hg _ => by rcases hg with hg | ⟨i, e, he, hg⟩ <;> first | (simp [Value.ownBlock] at hg; done) | (simp at he; done),
    by omega⟩

theorem BkTell.keep {w w' : World} {base kb cnt : Nat} {O : Nat → Prop} (h : BkTell w base kb cnt O) (hk : ∀ g, g = kb ∨ O g → g < w.heap.size → w'.heap[g]? = w.heap[g]?) : BkTell w' base kb cnt O := by
  obtain ⟨C, hNumber, hEvent, hAttempt, eNumber, eEvent, eAttempt, h⟩ := h
  exact ⟨C, hNumber, hEvent, hAttempt, eNumber, eEvent, eAttempt, (hk kb (.inl rfl) (lt_of_block h.blk)).trans h.blk, h.csz, h.c0, h.cNumber, h.cEvent, h.cAttempt, h.cno, h.kNumber.keep (fun g hg hl => hk g (.inr (h.oNumber g hg)) hl), h.nNumber, h.lNumber, h.oNumber, h.kEvent.keep (fun g hg hl => hk g (.inr (h.oEvent g hg)) hl), h.nEvent, h.lEvent, h.oEvent, h.kAttempt.keep (fun g hg hl => hk g (.inr (h.oAttempt g hg)) hl), h.nAttempt, h.lAttempt, h.oAttempt, h.sNumberEvent, h.sNumberAttempt, h.sEventAttempt, h.cm⟩
theorem BkTell.below {w w' : World} {base kb cnt : Nat} {O : Nat → Prop} (h : BkTell w base kb cnt O) (hb : Below w.heap.size w w') : BkTell w' base kb cnt O := h.keep fun g _ hl => hb.block g hl
theorem BkTell.wide {w : World} {base kb cnt : Nat} {O O' : Nat → Prop} (h : BkTell w base kb cnt O) (ho : ∀ g, O g → O' g) : BkTell w base kb cnt O' := by
  obtain ⟨C, hNumber, hEvent, hAttempt, eNumber, eEvent, eAttempt, h⟩ := h
  exact ⟨C, hNumber, hEvent, hAttempt, eNumber, eEvent, eAttempt, h.blk, h.csz, h.c0, h.cNumber, h.cEvent, h.cAttempt, h.cno, h.kNumber, h.nNumber, h.lNumber, fun g hg => ho g (h.oNumber g hg), h.kEvent, h.nEvent, h.lEvent, fun g hg => ho g (h.oEvent g hg), h.kAttempt, h.nAttempt, h.lAttempt, fun g hg => ho g (h.oAttempt g hg), h.sNumberEvent, h.sNumberAttempt, h.sEventAttempt, h.cm⟩

theorem bkTell_keepNumber {w : World} {base kb cnt n lc : Nat} {O : Nat → Prop} {lo : Option Addr} {cs : List Value} (h : BkTell w base kb cnt O) (hc : cnt < 1000000) (hn : n ≤ 1000000) (hown : w.ownsRow base 3 1 (.slice lo n lc) n cs) (hfree : ∀ g, (Value.slice lo n lc).ownBlock = some g → ¬ O g ∧ g ≠ kb) (hbase : base ≤ w.heap.size) :
    Calls Tryz.prog 146 #[.pointer (some ⟨kb, 0, none⟩), .slice lo n lc] w fun r w' => r = .returned (.tuple #[]) ∧ BkTell w' base kb (cnt + 1) (fun g => O g ∨ w.heap.size ≤ g ∨ (Value.slice lo n lc).ownBlock = some g) ∧ Chg (fun k => k = kb ∨ O k) w w' := by
  obtain ⟨C, hNumber, hEvent, hAttempt, eNumber, eEvent, eAttempt, h⟩ := h
  refine (keepNumber_any h.kNumber h.blk h.cNumber h.c0 (by omega) (by have := h.nNumber; omega) hown (fun g hg => ⟨fun e => (hfree g hg).1 (h.oNumber g (.inl e)), (hfree g hg).2⟩) (fun i g e he h1 h2 => (hfree g h2).1 (h.oNumber g (.inr ⟨i, e, he, h1⟩))) hbase).mono ?_
  rintro r w' ⟨rfl, hv', hblk, hkind, hchg, hfrom⟩
  have hO : ∀ g, ownsNumber hv' (eNumber ++ [⟨.slice lo n lc, cnt, n⟩]) g → ownsNumber hNumber eNumber g ∨ w.heap.size ≤ g ∨ (Value.slice lo n lc).ownBlock = some g := by
    rintro g (hg | ⟨i, e, he, hg⟩)
    · exact (hfrom g hg).imp (fun q => .inl q) (fun q => .inl q)
    · rcases snocGetTell he with rfl | he
      · exact .inr (.inr hg)
      · exact .inl (.inr ⟨i, e, he, hg⟩)
  have hlt : ∀ g, ownsNumber hNumber eNumber g → g < w.heap.size := fun g hg => (h.kNumber.from hg).2
  have hKEvent := h.kEvent.keep (w' := w') (fun g hg hl => hchg.block g hl (fun e => by
    rcases e with e | e
    · exact h.kEvent.notkb (by rw [← e]; exact hg)
    · exact h.sNumberEvent g (.inl e) (hg)))
  have hKAttempt := h.kAttempt.keep (w' := w') (fun g hg hl => hchg.block g hl (fun e => by
    rcases e with e | e
    · exact h.kAttempt.notkb (by rw [← e]; exact hg)
    · exact h.sNumberAttempt g (.inl e) (hg)))
  refine ⟨rfl, ⟨_, hv', hEvent, hAttempt, _, eEvent, eAttempt, hblk, by rw [Array.size_setIfInBounds, Array.size_setIfInBounds]; exact h.csz, ?_, book_setF h.csz (by decide) (by decide), by rw [book_setN (by decide) (by decide)]; exact h.cEvent, by rw [book_setN (by decide) (by decide)]; exact h.cAttempt, fun i h0 h1 qNumber qEvent qAttempt => by rw [book_setN (by omega) qNumber]; exact h.cno i h0 h1 qNumber qEvent qAttempt,
    hkind, by rw [List.length_append, List.length_singleton]; have := h.nNumber; omega, fun i e he => by rcases snocGetTell he with rfl | he; exact hn; exact h.lNumber i e he, fun g hg => (hO g hg).imp (h.oNumber g) id,
    hKEvent, by have := h.nEvent; omega, h.lEvent, fun g hg => .inl (h.oEvent g hg),
    hKAttempt, by have := h.nAttempt; omega, h.lAttempt, fun g hg => .inl (h.oAttempt g hg),
    fun g hx hy => by rcases hO g hx with q | q | q; exact h.sNumberEvent g q hy; (have := (h.kEvent.from hy).2; omega); exact (hfree g q).1 (h.oEvent g hy),
    fun g hx hy => by rcases hO g hx with q | q | q; exact h.sNumberAttempt g q hy; (have := (h.kAttempt.from hy).2; omega); exact (hfree g q).1 (h.oAttempt g hy),
    h.sEventAttempt,
    by omega⟩, ⟨hchg.os, hchg.tape, hchg.output, hchg.size, fun k hk hn => hchg.block k hk (fun e => hn (e.imp id (fun q => h.oNumber k (.inl q))))⟩⟩
  rw [book_set0 h.csz]
  simp

theorem bkTell_keepEvent {w : World} {base kb cnt n lc : Nat} {O : Nat → Prop} {lo : Option Addr} {cs : List Value} (h : BkTell w base kb cnt O) (hc : cnt < 1000000) (hn : n ≤ 1000000) (hown : w.ownsRow base 126 4 (.slice lo n lc) n cs) (hfree : ∀ g, (Value.slice lo n lc).ownBlock = some g → ¬ O g ∧ g ≠ kb) (hbase : base ≤ w.heap.size) :
    Calls Tryz.prog 144 #[.pointer (some ⟨kb, 0, none⟩), .slice lo n lc] w fun r w' => r = .returned (.tuple #[]) ∧ BkTell w' base kb (cnt + 1) (fun g => O g ∨ w.heap.size ≤ g ∨ (Value.slice lo n lc).ownBlock = some g) ∧ Chg (fun k => k = kb ∨ O k) w w' := by
  obtain ⟨C, hNumber, hEvent, hAttempt, eNumber, eEvent, eAttempt, h⟩ := h
  refine (keepEvent_any h.kEvent h.blk h.cEvent h.c0 (by omega) (by have := h.nEvent; omega) hown (fun g hg => ⟨fun e => (hfree g hg).1 (h.oEvent g (.inl e)), (hfree g hg).2⟩) (fun i g e he h1 h2 => (hfree g h2).1 (h.oEvent g (.inr ⟨i, e, he, h1⟩))) hbase).mono ?_
  rintro r w' ⟨rfl, hv', hblk, hkind, hchg, hfrom⟩
  have hO : ∀ g, ownsEvent hv' (eEvent ++ [⟨.slice lo n lc, cnt, n⟩]) g → ownsEvent hEvent eEvent g ∨ w.heap.size ≤ g ∨ (Value.slice lo n lc).ownBlock = some g := by
    rintro g (hg | ⟨i, e, he, hg⟩)
    · exact (hfrom g hg).imp (fun q => .inl q) (fun q => .inl q)
    · rcases snocGetTell he with rfl | he
      · exact .inr (.inr hg)
      · exact .inl (.inr ⟨i, e, he, hg⟩)
  have hlt : ∀ g, ownsEvent hEvent eEvent g → g < w.heap.size := fun g hg => (h.kEvent.from hg).2
  have hKNumber := h.kNumber.keep (w' := w') (fun g hg hl => hchg.block g hl (fun e => by
    rcases e with e | e
    · exact h.kNumber.notkb (by rw [← e]; exact hg)
    · exact h.sNumberEvent g (hg) (.inl e)))
  have hKAttempt := h.kAttempt.keep (w' := w') (fun g hg hl => hchg.block g hl (fun e => by
    rcases e with e | e
    · exact h.kAttempt.notkb (by rw [← e]; exact hg)
    · exact h.sEventAttempt g (.inl e) (hg)))
  refine ⟨rfl, ⟨_, hNumber, hv', hAttempt, eNumber, _, eAttempt, hblk, by rw [Array.size_setIfInBounds, Array.size_setIfInBounds]; exact h.csz, ?_, by rw [book_setN (by decide) (by decide)]; exact h.cNumber, book_setF h.csz (by decide) (by decide), by rw [book_setN (by decide) (by decide)]; exact h.cAttempt, fun i h0 h1 qNumber qEvent qAttempt => by rw [book_setN (by omega) qEvent]; exact h.cno i h0 h1 qNumber qEvent qAttempt,
    hKNumber, by have := h.nNumber; omega, h.lNumber, fun g hg => .inl (h.oNumber g hg),
    hkind, by rw [List.length_append, List.length_singleton]; have := h.nEvent; omega, fun i e he => by rcases snocGetTell he with rfl | he; exact hn; exact h.lEvent i e he, fun g hg => (hO g hg).imp (h.oEvent g) id,
    hKAttempt, by have := h.nAttempt; omega, h.lAttempt, fun g hg => .inl (h.oAttempt g hg),
    fun g hy hx => by rcases hO g hx with q | q | q; exact h.sNumberEvent g hy q; (have := (h.kNumber.from hy).2; omega); exact (hfree g q).1 (h.oNumber g hy),
    h.sNumberAttempt,
    fun g hx hy => by rcases hO g hx with q | q | q; exact h.sEventAttempt g q hy; (have := (h.kAttempt.from hy).2; omega); exact (hfree g q).1 (h.oAttempt g hy),
    by omega⟩, ⟨hchg.os, hchg.tape, hchg.output, hchg.size, fun k hk hn => hchg.block k hk (fun e => hn (e.imp id (fun q => h.oEvent k (.inl q))))⟩⟩
  rw [book_set0 h.csz]
  simp

theorem bkTell_keepAttempt {w : World} {base kb cnt n lc : Nat} {O : Nat → Prop} {lo : Option Addr} {cs : List Value} (h : BkTell w base kb cnt O) (hc : cnt < 1000000) (hn : n ≤ 1000000) (hown : w.ownsRow base 138 8 (.slice lo n lc) n cs) (hfree : ∀ g, (Value.slice lo n lc).ownBlock = some g → ¬ O g ∧ g ≠ kb) (hbase : base ≤ w.heap.size) :
    Calls Tryz.prog 145 #[.pointer (some ⟨kb, 0, none⟩), .slice lo n lc] w fun r w' => r = .returned (.tuple #[]) ∧ BkTell w' base kb (cnt + 1) (fun g => O g ∨ w.heap.size ≤ g ∨ (Value.slice lo n lc).ownBlock = some g) ∧ Chg (fun k => k = kb ∨ O k) w w' := by
  obtain ⟨C, hNumber, hEvent, hAttempt, eNumber, eEvent, eAttempt, h⟩ := h
  refine (keepAttempt_any h.kAttempt h.blk h.cAttempt h.c0 (by omega) (by have := h.nAttempt; omega) hown (fun g hg => ⟨fun e => (hfree g hg).1 (h.oAttempt g (.inl e)), (hfree g hg).2⟩) (fun i g e he h1 h2 => (hfree g h2).1 (h.oAttempt g (.inr ⟨i, e, he, h1⟩))) hbase).mono ?_
  rintro r w' ⟨rfl, hv', hblk, hkind, hchg, hfrom⟩
  have hO : ∀ g, ownsAttempt hv' (eAttempt ++ [⟨.slice lo n lc, cnt, n⟩]) g → ownsAttempt hAttempt eAttempt g ∨ w.heap.size ≤ g ∨ (Value.slice lo n lc).ownBlock = some g := by
    rintro g (hg | ⟨i, e, he, hg⟩)
    · exact (hfrom g hg).imp (fun q => .inl q) (fun q => .inl q)
    · rcases snocGetTell he with rfl | he
      · exact .inr (.inr hg)
      · exact .inl (.inr ⟨i, e, he, hg⟩)
  have hlt : ∀ g, ownsAttempt hAttempt eAttempt g → g < w.heap.size := fun g hg => (h.kAttempt.from hg).2
  have hKNumber := h.kNumber.keep (w' := w') (fun g hg hl => hchg.block g hl (fun e => by
    rcases e with e | e
    · exact h.kNumber.notkb (by rw [← e]; exact hg)
    · exact h.sNumberAttempt g (hg) (.inl e)))
  have hKEvent := h.kEvent.keep (w' := w') (fun g hg hl => hchg.block g hl (fun e => by
    rcases e with e | e
    · exact h.kEvent.notkb (by rw [← e]; exact hg)
    · exact h.sEventAttempt g (hg) (.inl e)))
  refine ⟨rfl, ⟨_, hNumber, hEvent, hv', eNumber, eEvent, _, hblk, by rw [Array.size_setIfInBounds, Array.size_setIfInBounds]; exact h.csz, ?_, by rw [book_setN (by decide) (by decide)]; exact h.cNumber, by rw [book_setN (by decide) (by decide)]; exact h.cEvent, book_setF h.csz (by decide) (by decide), fun i h0 h1 qNumber qEvent qAttempt => by rw [book_setN (by omega) qAttempt]; exact h.cno i h0 h1 qNumber qEvent qAttempt,
    hKNumber, by have := h.nNumber; omega, h.lNumber, fun g hg => .inl (h.oNumber g hg),
    hKEvent, by have := h.nEvent; omega, h.lEvent, fun g hg => .inl (h.oEvent g hg),
    hkind, by rw [List.length_append, List.length_singleton]; have := h.nAttempt; omega, fun i e he => by rcases snocGetTell he with rfl | he; exact hn; exact h.lAttempt i e he, fun g hg => (hO g hg).imp (h.oAttempt g) id,
    h.sNumberEvent,
    fun g hy hx => by rcases hO g hx with q | q | q; exact h.sNumberAttempt g hy q; (have := (h.kNumber.from hy).2; omega); exact (hfree g q).1 (h.oNumber g hy),
    fun g hy hx => by rcases hO g hx with q | q | q; exact h.sEventAttempt g hy q; (have := (h.kEvent.from hy).2; omega); exact (hfree g q).1 (h.oEvent g hy),
    by omega⟩, ⟨hchg.os, hchg.tape, hchg.output, hchg.size, fun k hk hn => hchg.block k hk (fun e => hn (e.imp id (fun q => h.oAttempt k (.inl q))))⟩⟩
  rw [book_set0 h.csz]
  simp

theorem bkTell_apart {w : World} {base kb cnt : Nat} {O : Nat → Prop} (h : BkTell w base kb cnt O) : Calls Tryz.prog 13 #[.pointer (some ⟨kb, 0, none⟩)] w fun r w' => r = .returned (.bool true) ∧ Chg O w w' := by
  obtain ⟨C, hNumber, hEvent, hAttempt, eNumber, eEvent, eAttempt, h⟩ := h
  have hcm := h.cm
  refine (apartTell_any (M := 1000000) h.kNumber h.lNumber h.cNumber (by have := h.nNumber; omega) h.kEvent h.lEvent h.cEvent (by have := h.nEvent; omega) h.kAttempt h.lAttempt h.cAttempt (by have := h.nAttempt; omega) h.sNumberEvent h.sNumberAttempt h.sEventAttempt (by decide) h.blk h.cno).mono ?_
  rintro r w' ⟨rfl, hc⟩
  exact ⟨rfl, ⟨hc.os, hc.tape, hc.output, hc.size, fun k hk hn => hc.block k hk (fun e => hn (by
    rcases e with e | e | e
    · exact h.oNumber k e
    · exact h.oEvent k e
    · exact h.oAttempt k e))⟩⟩

end Go.Proofs.YtilkpmjkiohfdaaGreatDoor

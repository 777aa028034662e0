/- Put together by merge.py out of XBookZ.lean.tpl, XBkPlays.lean.tpl. -/
import Derived.Test.YthmmbldhbdnfpaaGreatDoorMBase
import Derived.Test.YthmmbldhbdnfpaaGreatDoorBookApartPlays
namespace Go.Proofs.YthmmbldhbdnfpaaGreatDoor
open Go.RowKit
set_option linter.unusedVariables false
set_option linter.unusedSimpArgs false

section
def zeroBook : Array Value := (.int .i64 0 :: List.replicate 27 (.slice none 0 0)).toArray
theorem zero_book (w : World) : (zeroValue 92).run Tryz.prog w = .ok (.agg zeroBook) w := by kernel_rfl
theorem zbook_size : zeroBook.size = 28 := by decide +kernel
theorem zbook_one : zeroBook.all (·.oneCell') = true := by decide +kernel
theorem zbook_info : (Tryz.prog.info? 92).map (·.size) = some zeroBook.size := by kernel_rfl
theorem zbook_at (i : Nat) (h0 : 0 < i) (h : i < 28) : zeroBook[i]? = some (.slice none 0 0) := by
  unfold zeroBook
  obtain ⟨j, rfl⟩ : ∃ j, i = j + 1 := ⟨i - 1, by omega⟩
  rw [List.getElem?_toArray, List.getElem?_cons_succ, List.getElem?_replicate, if_pos (by omega)]
theorem zbook_0 : zeroBook[0]? = some (.int .i64 0) := by kernel_rfl
theorem book_setF {C : Array Value} {hv x : Value} {f : Nat} (hs : C.size = 28) (h0 : 0 < f) (hf : f < 28) : ((C.setIfInBounds f hv).setIfInBounds 0 x)[f]? = some hv := by
  rw [Array.getElem?_setIfInBounds_ne (by omega), Array.getElem?_setIfInBounds_self, if_pos (by omega)]
theorem book_set0 {C : Array Value} {hv x : Value} {f : Nat} (hs : C.size = 28) : ((C.setIfInBounds f hv).setIfInBounds 0 x)[0]? = some x := by
  rw [Array.getElem?_setIfInBounds_self, if_pos (by rw [Array.size_setIfInBounds]; omega)]
theorem book_setN {C : Array Value} {hv x : Value} {i f : Nat} (h0 : i ≠ 0) (hf : i ≠ f) : ((C.setIfInBounds f hv).setIfInBounds 0 x)[i]? = C[i]? := by
  rw [Array.getElem?_setIfInBounds_ne (by omega), Array.getElem?_setIfInBounds_ne (by omega)]
theorem book_store (w : World) : Sem.run Tryz.prog (storeCells ⟨w.heap.size, 0, none⟩ zeroBook.toList 0) (w.alloc (.cells zeroBook 92)) = .ok () ((w.alloc (.cells zeroBook 92)).setCells w.heap.size 0 zeroBook.toList) := by
  have hb := block_new w (.cells zeroBook 92)
  have := run_storeCells_cells (P := Tryz.prog) w.heap.size 0 zeroBook.toList 0 (w.alloc (.cells zeroBook 92)) (fun i hi => by
      rw [Nat.add_zero, Nat.zero_add, cell_of_block hb (Array.getElem?_eq_getElem (by rw [Array.length_toList] at hi; exact hi))]; rfl) (fun i _ => free_of_block hb)
    (fun v hv => Array.all_eq_true_iff_forall_mem.1 zbook_one v (by simpa using hv))
  simpa using this

theorem setCells_part {t : TypeId} {f : Nat × Nat} (b : Nat) (B : List Value) : ∀ (vs mid A : List Value) (o : Nat) (w : World), w.heap[b]? = some (.cells (A ++ mid ++ B).toArray t f) → A.length = o → mid.length = vs.length →
    (w.setCells b o vs).heap[b]? = some (.cells (A ++ vs ++ B).toArray t f)
  | [], mid, A, o, w, h, _, hm => by
    have : mid = [] := List.eq_nil_of_length_eq_zero (by simpa using hm)
    subst this
    exact h
  | v :: r, [], A, o, w, h, _, hm => by simp at hm
  | v :: r, u :: mid, A, o, w, h, hA, hm => by
    have h1 := block_setCell (o := o) v h
    have e1 : ((A ++ u :: mid ++ B).toArray.setIfInBounds o v) = (A ++ [v] ++ mid ++ B).toArray := by
      subst hA
      simp [List.setIfInBounds_toArray, List.set_append]
    rw [e1] at h1
    have := setCells_part b B r mid (A ++ [v]) (o + 1) (w.setCell ⟨b, o, none⟩ v) h1 (by simp [hA]) (by simpa using hm)
    simpa [World.setCells] using this
theorem setCells_whole {w : World} {g : Nat} {c : Array Value} {t : TypeId} {f : Nat × Nat} {vs : List Value} (h : w.heap[g]? = some (.cells c t f)) (hl : c.size = vs.length) : (w.setCells g 0 vs).heap[g]? = some (.cells vs.toArray t f) := by
  have := setCells_part g [] vs c.toList [] 0 w (by simpa using h) rfl (by simpa using hl)
  simpa using this
theorem below_setCells {B : Nat} {a : World} {g : Nat} (hg : B ≤ g) (hB : B ≤ a.heap.size) : ∀ (vs : List Value) (o : Nat) {w : World}, Below B a w → Below B a (w.setCells g o vs)
  | [], _, _, h => h
  | v :: r, o, w, h => by
    rw [World.setCells]
    exact below_setCells hg hB r (o + 1) (Chg.below (S := fun k => k = g) h (Nat.le_trans hB h.size) ((Chg.refl (fun k => k = g) w).setCell (p := ⟨g, o, none⟩) (.inl rfl) v) (fun k hk => by omega))

theorem size_setCells (b : Nat) : ∀ (vs : List Value) (o : Nat) (w : World), (w.setCells b o vs).heap.size = w.heap.size
  | [], _, _ => rfl
  | v :: r, o, w => by rw [World.setCells, size_setCells b r]; simp [World.setCell]
/-- a book that was just laid -/
theorem book_fresh (w : World) : ((w.alloc (.cells zeroBook 92)).setCells w.heap.size 0 zeroBook.toList).heap[w.heap.size]? = some (.cells zeroBook 92 (0, 0)) ∧
    Below w.heap.size w ((w.alloc (.cells zeroBook 92)).setCells w.heap.size 0 zeroBook.toList) ∧ w.heap.size < ((w.alloc (.cells zeroBook 92)).setCells w.heap.size 0 zeroBook.toList).heap.size := by
  refine ⟨?_, below_setCells (Nat.le_refl _) (Nat.le_refl _) _ 0 ((Below.refl _ _).alloc (Nat.le_refl _) _), by rw [size_setCells]; simp⟩
  have h := setCells_whole (vs := zeroBook.toList) (block_new w (.cells zeroBook 92)) Array.length_toList.symm
  rwa [show zeroBook.toList.toArray = zeroBook from Array.toArray_toList] at h
end

section
theorem snocGetPlays {α : Type} {l : List α} {i : Nat} {y z : α} (h : (l ++ [y])[i]? = some z) : z = y ∨ l[i]? = some z := by
  rcases Nat.lt_or_ge i l.length with h1 | h1
  · rw [List.getElem?_append_left h1] at h; exact .inr h
  · rw [List.getElem?_append_right h1] at h
    have := (List.getElem?_eq_some_iff.1 h).1
    simp at this
    obtain rfl : i = l.length := by omega
    simp at h
    exact .inl h.symm

structure BkStPlays (w : World) (base kb cnt : Nat) (O : Nat → Prop) (C : Array Value) (hWide : Value) (hCell : Value) (hEvent : Value) (hSeen : Value) (eWide : List EntWide) (eCell : List EntCell) (eEvent : List EntEvent) (eSeen : List EntSeen) : Prop where
  blk : w.heap[kb]? = some (.cells C 92 (0, 0))
  csz : C.size = 28
  c0 : C[0]? = some (.int .i64 (cnt : Int))
  cWide : C[3]? = some hWide
  cCell : C[5]? = some hCell
  cEvent : C[8]? = some hEvent
  cSeen : C[15]? = some hSeen
  cno : (∀ i, 0 < i → i < 28 → i ≠ 3 → i ≠ 5 → i ≠ 8 → i ≠ 15 → C[i]? = some (.slice none 0 0))
  kWide : KindWide w base kb hWide eWide
  nWide : eWide.length ≤ cnt
  lWide : (∀ (i : Nat) e, eWide[i]? = some e → e.len ≤ 4000000)
  oWide : (∀ g, ownsWide hWide eWide g → O g)
  kCell : KindCell w base kb hCell eCell
  nCell : eCell.length ≤ cnt
  lCell : (∀ (i : Nat) e, eCell[i]? = some e → e.len ≤ 4000000)
  oCell : (∀ g, ownsCell hCell eCell g → O g)
  kEvent : KindEvent w base kb hEvent eEvent
  nEvent : eEvent.length ≤ cnt
  lEvent : (∀ (i : Nat) e, eEvent[i]? = some e → e.len ≤ 4000000)
  oEvent : (∀ g, ownsEvent hEvent eEvent g → O g)
  kSeen : KindSeen w base kb hSeen eSeen
  nSeen : eSeen.length ≤ cnt
  lSeen : (∀ (i : Nat) e, eSeen[i]? = some e → e.len ≤ 4000000)
  oSeen : (∀ g, ownsSeen hSeen eSeen g → O g)
  sWideCell : (∀ g, ownsWide hWide eWide g → ¬ ownsCell hCell eCell g)
  sWideEvent : (∀ g, ownsWide hWide eWide g → ¬ ownsEvent hEvent eEvent g)
  sWideSeen : (∀ g, ownsWide hWide eWide g → ¬ ownsSeen hSeen eSeen g)
  sCellEvent : (∀ g, ownsCell hCell eCell g → ¬ ownsEvent hEvent eEvent g)
  sCellSeen : (∀ g, ownsCell hCell eCell g → ¬ ownsSeen hSeen eSeen g)
  sEventSeen : (∀ g, ownsEvent hEvent eEvent g → ¬ ownsSeen hSeen eSeen g)
  cm : cnt ≤ 4000000
/-- the book: cnt lists have been kept; whatever block it owns is in O -/
def BkPlays (w : World) (base kb cnt : Nat) (O : Nat → Prop) : Prop := ∃ C hWide hCell hEvent hSeen eWide eCell eEvent eSeen, BkStPlays w base kb cnt O C hWide hCell hEvent hSeen eWide eCell eEvent eSeen

theorem BkPlays.nil {w : World} {base kb : Nat} {O : Nat → Prop} (h : w.heap[kb]? = some (.cells zeroBook 92 (0, 0))) : BkPlays w base kb 0 O :=
  ⟨zeroBook, .slice none 0 0, .slice none 0 0, .slice none 0 0, .slice none 0 0, [], [], [], [], h, zbook_size, zbook_0, zbook_at 3 (by decide) (by decide), zbook_at 5 (by decide) (by decide), zbook_at 8 (by decide) (by decide), zbook_at 15 (by decide) (by decide), fun i h0 h1 _ _ _ _ => zbook_at i h0 h1,
    nilWide _ _ _, by simp, fun i e he => by simp at he, fun g hg => by rcases hg with hg | ⟨i, e, he, hg⟩ <;> first | (simp [Value.ownBlock] at hg; done) | (simp at he; done),
    nilCell _ _ _, by simp, fun i e he => by simp at he, fun g hg => by rcases hg with hg | ⟨i, e, he, hg⟩ <;> first | (simp [Value.ownBlock] at hg; done) | (simp at he; done),
    nilEvent _ _ _, by simp, fun i e he => by simp at he, fun g hg => by rcases hg with hg | ⟨i, e, he, hg⟩ <;> first | (simp [Value.ownBlock] at hg; done) | (simp at he; done),
    nilSeen _ _ _, by simp, fun i e he => by simp at he, fun g hg => by rcases hg with hg | ⟨i, e, he, hg⟩ <;> first | (simp [Value.ownBlock] at hg; done) | (simp at he; done),
    fun g hg _ => by rcases hg with hg | ⟨i, e, he, hg⟩ <;> first | (simp [Value.ownBlock] at hg; done) | (simp at he; done),
    fun g hg _ => by rcases hg with hg | ⟨i, e, he, hg⟩ <;> first | (simp [Value.ownBlock] at hg; done) | (simp at he; done),
    fun g hg _ => by rcases hg with hg | ⟨i, e, he, hg⟩ <;> first | (simp [Value.ownBlock] at hg; done) | (simp at he; done),
    fun g hg _ => by rcases hg with hg | ⟨i, e, he, hg⟩ <;> first | (simp [Value.ownBlock] at hg; done) | (simp at he; done),
    fun g hg _ => by rcases hg with hg | ⟨i, e, he, hg⟩ <;> first | (simp [Value.ownBlock] at hg; done) | (simp at he; done),
    fun g hg _ => by rcases hg with hg | ⟨i, e, he, hg⟩ <;> first | (simp [Value.ownBlock] at hg; done) | (simp at he; done),
    by omega⟩

theorem BkPlays.keep {w w' : World} {base kb cnt : Nat} {O : Nat → Prop} (h : BkPlays w base kb cnt O) (hk : ∀ g, g = kb ∨ O g → g < w.heap.size → w'.heap[g]? = w.heap[g]?) : BkPlays w' base kb cnt O := by
  obtain ⟨C, hWide, hCell, hEvent, hSeen, eWide, eCell, eEvent, eSeen, h⟩ := h
  exact ⟨C, hWide, hCell, hEvent, hSeen, eWide, eCell, eEvent, eSeen, (hk kb (.inl rfl) (lt_of_block h.blk)).trans h.blk, h.csz, h.c0, h.cWide, h.cCell, h.cEvent, h.cSeen, h.cno, h.kWide.keep (fun g hg hl => hk g (.inr (h.oWide g hg)) hl), h.nWide, h.lWide, h.oWide, h.kCell.keep (fun g hg hl => hk g (.inr (h.oCell g hg)) hl), h.nCell, h.lCell, h.oCell, h.kEvent.keep (fun g hg hl => hk g (.inr (h.oEvent g hg)) hl), h.nEvent, h.lEvent, h.oEvent, h.kSeen.keep (fun g hg hl => hk g (.inr (h.oSeen g hg)) hl), h.nSeen, h.lSeen, h.oSeen, h.sWideCell, h.sWideEvent, h.sWideSeen, h.sCellEvent, h.sCellSeen, h.sEventSeen, h.cm⟩
theorem BkPlays.below {w w' : World} {base kb cnt : Nat} {O : Nat → Prop} (h : BkPlays w base kb cnt O) (hb : Below w.heap.size w w') : BkPlays w' base kb cnt O := h.keep fun g _ hl => hb.block g hl
theorem BkPlays.wide {w : World} {base kb cnt : Nat} {O O' : Nat → Prop} (h : BkPlays w base kb cnt O) (ho : ∀ g, O g → O' g) : BkPlays w base kb cnt O' := by
  obtain ⟨C, hWide, hCell, hEvent, hSeen, eWide, eCell, eEvent, eSeen, h⟩ := h
  exact ⟨C, hWide, hCell, hEvent, hSeen, eWide, eCell, eEvent, eSeen, h.blk, h.csz, h.c0, h.cWide, h.cCell, h.cEvent, h.cSeen, h.cno, h.kWide, h.nWide, h.lWide, fun g hg => ho g (h.oWide g hg), h.kCell, h.nCell, h.lCell, fun g hg => ho g (h.oCell g hg), h.kEvent, h.nEvent, h.lEvent, fun g hg => ho g (h.oEvent g hg), h.kSeen, h.nSeen, h.lSeen, fun g hg => ho g (h.oSeen g hg), h.sWideCell, h.sWideEvent, h.sWideSeen, h.sCellEvent, h.sCellSeen, h.sEventSeen, h.cm⟩

theorem bkPlays_keepWide {w : World} {base kb cnt n lc : Nat} {O : Nat → Prop} {lo : Option Addr} {cs : List Value} (h : BkPlays w base kb cnt O) (hc : cnt < 4000000) (hn : n ≤ 4000000) (hown : w.ownsRow base 2 1 (.slice lo n lc) n cs) (hfree : ∀ g, (Value.slice lo n lc).ownBlock = some g → ¬ O g ∧ g ≠ kb) (hbase : base ≤ w.heap.size) :
    Calls Tryz.prog 197 #[.pointer (some ⟨kb, 0, none⟩), .slice lo n lc] w fun r w' => r = .returned (.tuple #[]) ∧ BkPlays w' base kb (cnt + 1) (fun g => O g ∨ w.heap.size ≤ g ∨ (Value.slice lo n lc).ownBlock = some g) ∧ Chg (fun k => k = kb ∨ O k) w w' := by
  obtain ⟨C, hWide, hCell, hEvent, hSeen, eWide, eCell, eEvent, eSeen, h⟩ := h
  refine (keepWide_any h.kWide h.blk h.cWide h.c0 (by omega) (by have := h.nWide; omega) hown (fun g hg => ⟨fun e => (hfree g hg).1 (h.oWide g (.inl e)), (hfree g hg).2⟩) (fun i g e he h1 h2 => (hfree g h2).1 (h.oWide g (.inr ⟨i, e, he, h1⟩))) hbase).mono ?_
  rintro r w' ⟨rfl, hv', hblk, hkind, hchg, hfrom⟩
  have hO : ∀ g, ownsWide hv' (eWide ++ [⟨.slice lo n lc, cnt, n⟩]) g → ownsWide hWide eWide g ∨ w.heap.size ≤ g ∨ (Value.slice lo n lc).ownBlock = some g := by
    rintro g (hg | ⟨i, e, he, hg⟩)
    · exact (hfrom g hg).imp (fun q => .inl q) (fun q => .inl q)
    · rcases snocGetPlays he with rfl | he
      · exact .inr (.inr hg)
      · exact .inl (.inr ⟨i, e, he, hg⟩)
  have hlt : ∀ g, ownsWide hWide eWide g → g < w.heap.size := fun g hg => (h.kWide.from hg).2
  have hKCell := h.kCell.keep (w' := w') (fun g hg hl => hchg.block g hl (fun e => by
    rcases e with e | e
    · exact h.kCell.notkb (by rw [← e]; exact hg)
    · exact h.sWideCell g (.inl e) (hg)))
  have hKEvent := h.kEvent.keep (w' := w') (fun g hg hl => hchg.block g hl (fun e => by
    rcases e with e | e
    · exact h.kEvent.notkb (by rw [← e]; exact hg)
    · exact h.sWideEvent g (.inl e) (hg)))
  have hKSeen := h.kSeen.keep (w' := w') (fun g hg hl => hchg.block g hl (fun e => by
    rcases e with e | e
    · exact h.kSeen.notkb (by rw [← e]; exact hg)
    · exact h.sWideSeen g (.inl e) (hg)))
  refine ⟨rfl, ⟨_, hv', hCell, hEvent, hSeen, _, eCell, eEvent, eSeen, hblk, by rw [Array.size_setIfInBounds, Array.size_setIfInBounds]; exact h.csz, ?_, book_setF h.csz (by decide) (by decide), by rw [book_setN (by decide) (by decide)]; exact h.cCell, by rw [book_setN (by decide) (by decide)]; exact h.cEvent, by rw [book_setN (by decide) (by decide)]; exact h.cSeen, fun i h0 h1 qWide qCell qEvent qSeen => by rw [book_setN (by omega) qWide]; exact h.cno i h0 h1 qWide qCell qEvent qSeen,
    hkind, by rw [List.length_append, List.length_singleton]; have := h.nWide; omega, fun i e he => by rcases snocGetPlays he with rfl | he; exact hn; exact h.lWide i e he, fun g hg => (hO g hg).imp (h.oWide g) id,
    hKCell, by have := h.nCell; omega, h.lCell, fun g hg => .inl (h.oCell g hg),
    hKEvent, by have := h.nEvent; omega, h.lEvent, fun g hg => .inl (h.oEvent g hg),
    hKSeen, by have := h.nSeen; omega, h.lSeen, fun g hg => .inl (h.oSeen g hg),
    fun g hx hy => by rcases hO g hx with q | q | q; exact h.sWideCell g q hy; (have := (h.kCell.from hy).2; omega); exact (hfree g q).1 (h.oCell g hy),
    fun g hx hy => by rcases hO g hx with q | q | q; exact h.sWideEvent g q hy; (have := (h.kEvent.from hy).2; omega); exact (hfree g q).1 (h.oEvent g hy),
    fun g hx hy => by rcases hO g hx with q | q | q; exact h.sWideSeen g q hy; (have := (h.kSeen.from hy).2; omega); exact (hfree g q).1 (h.oSeen g hy),
    h.sCellEvent,
    h.sCellSeen,
    h.sEventSeen,
    by omega⟩, ⟨hchg.os, hchg.tape, hchg.output, hchg.size, fun k hk hn => hchg.block k hk (fun e => hn (e.imp id (fun q => h.oWide k (.inl q))))⟩⟩
  rw [book_set0 h.csz]
  simp

theorem bkPlays_keepCell {w : World} {base kb cnt n lc : Nat} {O : Nat → Prop} {lo : Option Addr} {cs : List Value} (h : BkPlays w base kb cnt O) (hc : cnt < 4000000) (hn : n ≤ 4000000) (hown : w.ownsRow base 105 2 (.slice lo n lc) n cs) (hfree : ∀ g, (Value.slice lo n lc).ownBlock = some g → ¬ O g ∧ g ≠ kb) (hbase : base ≤ w.heap.size) :
    Calls Tryz.prog 199 #[.pointer (some ⟨kb, 0, none⟩), .slice lo n lc] w fun r w' => r = .returned (.tuple #[]) ∧ BkPlays w' base kb (cnt + 1) (fun g => O g ∨ w.heap.size ≤ g ∨ (Value.slice lo n lc).ownBlock = some g) ∧ Chg (fun k => k = kb ∨ O k) w w' := by
  obtain ⟨C, hWide, hCell, hEvent, hSeen, eWide, eCell, eEvent, eSeen, h⟩ := h
  refine (keepCell_any h.kCell h.blk h.cCell h.c0 (by omega) (by have := h.nCell; omega) hown (fun g hg => ⟨fun e => (hfree g hg).1 (h.oCell g (.inl e)), (hfree g hg).2⟩) (fun i g e he h1 h2 => (hfree g h2).1 (h.oCell g (.inr ⟨i, e, he, h1⟩))) hbase).mono ?_
  rintro r w' ⟨rfl, hv', hblk, hkind, hchg, hfrom⟩
  have hO : ∀ g, ownsCell hv' (eCell ++ [⟨.slice lo n lc, cnt, n⟩]) g → ownsCell hCell eCell g ∨ w.heap.size ≤ g ∨ (Value.slice lo n lc).ownBlock = some g := by
    rintro g (hg | ⟨i, e, he, hg⟩)
    · exact (hfrom g hg).imp (fun q => .inl q) (fun q => .inl q)
    · rcases snocGetPlays he with rfl | he
      · exact .inr (.inr hg)
      · exact .inl (.inr ⟨i, e, he, hg⟩)
  have hlt : ∀ g, ownsCell hCell eCell g → g < w.heap.size := fun g hg => (h.kCell.from hg).2
  have hKWide := h.kWide.keep (w' := w') (fun g hg hl => hchg.block g hl (fun e => by
    rcases e with e | e
    · exact h.kWide.notkb (by rw [← e]; exact hg)
    · exact h.sWideCell g (hg) (.inl e)))
  have hKEvent := h.kEvent.keep (w' := w') (fun g hg hl => hchg.block g hl (fun e => by
    rcases e with e | e
    · exact h.kEvent.notkb (by rw [← e]; exact hg)
    · exact h.sCellEvent g (.inl e) (hg)))
  have hKSeen := h.kSeen.keep (w' := w') (fun g hg hl => hchg.block g hl (fun e => by
    rcases e with e | e
    · exact h.kSeen.notkb (by rw [← e]; exact hg)
    · exact h.sCellSeen g (.inl e) (hg)))
  refine ⟨rfl, ⟨_, hWide, hv', hEvent, hSeen, eWide, _, eEvent, eSeen, hblk, by rw [Array.size_setIfInBounds, Array.size_setIfInBounds]; exact h.csz, ?_, by rw [book_setN (by decide) (by decide)]; exact h.cWide, book_setF h.csz (by decide) (by decide), by rw [book_setN (by decide) (by decide)]; exact h.cEvent, by rw [book_setN (by decide) (by decide)]; exact h.cSeen, fun i h0 h1 qWide qCell qEvent qSeen => by rw [book_setN (by omega) qCell]; exact h.cno i h0 h1 qWide qCell qEvent qSeen,
    hKWide, by have := h.nWide; omega, h.lWide, fun g hg => .inl (h.oWide g hg),
    hkind, by rw [List.length_append, List.length_singleton]; have := h.nCell; omega, fun i e he => by rcases snocGetPlays he with rfl | he; exact hn; exact h.lCell i e he, fun g hg => (hO g hg).imp (h.oCell g) id,
    hKEvent, by have := h.nEvent; omega, h.lEvent, fun g hg => .inl (h.oEvent g hg),
    hKSeen, by have := h.nSeen; omega, h.lSeen, fun g hg => .inl (h.oSeen g hg),
    fun g hy hx => by rcases hO g hx with q | q | q; exact h.sWideCell g hy q; (have := (h.kWide.from hy).2; omega); exact (hfree g q).1 (h.oWide g hy),
    h.sWideEvent,
    h.sWideSeen,
    fun g hx hy => by rcases hO g hx with q | q | q; exact h.sCellEvent g q hy; (have := (h.kEvent.from hy).2; omega); exact (hfree g q).1 (h.oEvent g hy),
    fun g hx hy => by rcases hO g hx with q | q | q; exact h.sCellSeen g q hy; (have := (h.kSeen.from hy).2; omega); exact (hfree g q).1 (h.oSeen g hy),
    h.sEventSeen,
    by omega⟩, ⟨hchg.os, hchg.tape, hchg.output, hchg.size, fun k hk hn => hchg.block k hk (fun e => hn (e.imp id (fun q => h.oCell k (.inl q))))⟩⟩
  rw [book_set0 h.csz]
  simp

theorem bkPlays_keepEvent {w : World} {base kb cnt n lc : Nat} {O : Nat → Prop} {lo : Option Addr} {cs : List Value} (h : BkPlays w base kb cnt O) (hc : cnt < 4000000) (hn : n ≤ 4000000) (hown : w.ownsRow base 154 4 (.slice lo n lc) n cs) (hfree : ∀ g, (Value.slice lo n lc).ownBlock = some g → ¬ O g ∧ g ≠ kb) (hbase : base ≤ w.heap.size) :
    Calls Tryz.prog 81 #[.pointer (some ⟨kb, 0, none⟩), .slice lo n lc] w fun r w' => r = .returned (.tuple #[]) ∧ BkPlays w' base kb (cnt + 1) (fun g => O g ∨ w.heap.size ≤ g ∨ (Value.slice lo n lc).ownBlock = some g) ∧ Chg (fun k => k = kb ∨ O k) w w' := by
  obtain ⟨C, hWide, hCell, hEvent, hSeen, eWide, eCell, eEvent, eSeen, h⟩ := h
  refine (keepEvent_any h.kEvent h.blk h.cEvent h.c0 (by omega) (by have := h.nEvent; omega) hown (fun g hg => ⟨fun e => (hfree g hg).1 (h.oEvent g (.inl e)), (hfree g hg).2⟩) (fun i g e he h1 h2 => (hfree g h2).1 (h.oEvent g (.inr ⟨i, e, he, h1⟩))) hbase).mono ?_
  rintro r w' ⟨rfl, hv', hblk, hkind, hchg, hfrom⟩
  have hO : ∀ g, ownsEvent hv' (eEvent ++ [⟨.slice lo n lc, cnt, n⟩]) g → ownsEvent hEvent eEvent g ∨ w.heap.size ≤ g ∨ (Value.slice lo n lc).ownBlock = some g := by
    rintro g (hg | ⟨i, e, he, hg⟩)
    · exact (hfrom g hg).imp (fun q => .inl q) (fun q => .inl q)
    · rcases snocGetPlays he with rfl | he
      · exact .inr (.inr hg)
      · exact .inl (.inr ⟨i, e, he, hg⟩)
  have hlt : ∀ g, ownsEvent hEvent eEvent g → g < w.heap.size := fun g hg => (h.kEvent.from hg).2
  have hKWide := h.kWide.keep (w' := w') (fun g hg hl => hchg.block g hl (fun e => by
    rcases e with e | e
    · exact h.kWide.notkb (by rw [← e]; exact hg)
    · exact h.sWideEvent g (hg) (.inl e)))
  have hKCell := h.kCell.keep (w' := w') (fun g hg hl => hchg.block g hl (fun e => by
    rcases e with e | e
    · exact h.kCell.notkb (by rw [← e]; exact hg)
    · exact h.sCellEvent g (hg) (.inl e)))
  have hKSeen := h.kSeen.keep (w' := w') (fun g hg hl => hchg.block g hl (fun e => by
    rcases e with e | e
    · exact h.kSeen.notkb (by rw [← e]; exact hg)
    · exact h.sEventSeen g (.inl e) (hg)))
  refine ⟨rfl, ⟨_, hWide, hCell, hv', hSeen, eWide, eCell, _, eSeen, hblk, by rw [Array.size_setIfInBounds, Array.size_setIfInBounds]; exact h.csz, ?_, by rw [book_setN (by decide) (by decide)]; exact h.cWide, by rw [book_setN (by decide) (by decide)]; exact h.cCell, book_setF h.csz (by decide) (by decide), by rw [book_setN (by decide) (by decide)]; exact h.cSeen, fun i h0 h1 qWide qCell qEvent qSeen => by rw [book_setN (by omega) qEvent]; exact h.cno i h0 h1 qWide qCell qEvent qSeen,
    hKWide, by have := h.nWide; omega, h.lWide, fun g hg => .inl (h.oWide g hg),
    hKCell, by have := h.nCell; omega, h.lCell, fun g hg => .inl (h.oCell g hg),
    hkind, by rw [List.length_append, List.length_singleton]; have := h.nEvent; omega, fun i e he => by rcases snocGetPlays he with rfl | he; exact hn; exact h.lEvent i e he, fun g hg => (hO g hg).imp (h.oEvent g) id,
    hKSeen, by have := h.nSeen; omega, h.lSeen, fun g hg => .inl (h.oSeen g hg),
    h.sWideCell,
    fun g hy hx => by rcases hO g hx with q | q | q; exact h.sWideEvent g hy q; (have := (h.kWide.from hy).2; omega); exact (hfree g q).1 (h.oWide g hy),
    h.sWideSeen,
    fun g hy hx => by rcases hO g hx with q | q | q; exact h.sCellEvent g hy q; (have := (h.kCell.from hy).2; omega); exact (hfree g q).1 (h.oCell g hy),
    h.sCellSeen,
    fun g hx hy => by rcases hO g hx with q | q | q; exact h.sEventSeen g q hy; (have := (h.kSeen.from hy).2; omega); exact (hfree g q).1 (h.oSeen g hy),
    by omega⟩, ⟨hchg.os, hchg.tape, hchg.output, hchg.size, fun k hk hn => hchg.block k hk (fun e => hn (e.imp id (fun q => h.oEvent k (.inl q))))⟩⟩
  rw [book_set0 h.csz]
  simp

theorem bkPlays_keepSeen {w : World} {base kb cnt n lc : Nat} {O : Nat → Prop} {lo : Option Addr} {cs : List Value} (h : BkPlays w base kb cnt O) (hc : cnt < 4000000) (hn : n ≤ 4000000) (hown : w.ownsRow base 131 2 (.slice lo n lc) n cs) (hfree : ∀ g, (Value.slice lo n lc).ownBlock = some g → ¬ O g ∧ g ≠ kb) (hbase : base ≤ w.heap.size) :
    Calls Tryz.prog 198 #[.pointer (some ⟨kb, 0, none⟩), .slice lo n lc] w fun r w' => r = .returned (.tuple #[]) ∧ BkPlays w' base kb (cnt + 1) (fun g => O g ∨ w.heap.size ≤ g ∨ (Value.slice lo n lc).ownBlock = some g) ∧ Chg (fun k => k = kb ∨ O k) w w' := by
  obtain ⟨C, hWide, hCell, hEvent, hSeen, eWide, eCell, eEvent, eSeen, h⟩ := h
  refine (keepSeen_any h.kSeen h.blk h.cSeen h.c0 (by omega) (by have := h.nSeen; omega) hown (fun g hg => ⟨fun e => (hfree g hg).1 (h.oSeen g (.inl e)), (hfree g hg).2⟩) (fun i g e he h1 h2 => (hfree g h2).1 (h.oSeen g (.inr ⟨i, e, he, h1⟩))) hbase).mono ?_
  rintro r w' ⟨rfl, hv', hblk, hkind, hchg, hfrom⟩
  have hO : ∀ g, ownsSeen hv' (eSeen ++ [⟨.slice lo n lc, cnt, n⟩]) g → ownsSeen hSeen eSeen g ∨ w.heap.size ≤ g ∨ (Value.slice lo n lc).ownBlock = some g := by
    rintro g (hg | ⟨i, e, he, hg⟩)
    · exact (hfrom g hg).imp (fun q => .inl q) (fun q => .inl q)
    · rcases snocGetPlays he with rfl | he
      · exact .inr (.inr hg)
      · exact .inl (.inr ⟨i, e, he, hg⟩)
  have hlt : ∀ g, ownsSeen hSeen eSeen g → g < w.heap.size := fun g hg => (h.kSeen.from hg).2
  have hKWide := h.kWide.keep (w' := w') (fun g hg hl => hchg.block g hl (fun e => by
    rcases e with e | e
    · exact h.kWide.notkb (by rw [← e]; exact hg)
    · exact h.sWideSeen g (hg) (.inl e)))
  have hKCell := h.kCell.keep (w' := w') (fun g hg hl => hchg.block g hl (fun e => by
    rcases e with e | e
    · exact h.kCell.notkb (by rw [← e]; exact hg)
    · exact h.sCellSeen g (hg) (.inl e)))
  have hKEvent := h.kEvent.keep (w' := w') (fun g hg hl => hchg.block g hl (fun e => by
    rcases e with e | e
    · exact h.kEvent.notkb (by rw [← e]; exact hg)
    · exact h.sEventSeen g (hg) (.inl e)))
  refine ⟨rfl, ⟨_, hWide, hCell, hEvent, hv', eWide, eCell, eEvent, _, hblk, by rw [Array.size_setIfInBounds, Array.size_setIfInBounds]; exact h.csz, ?_, by rw [book_setN (by decide) (by decide)]; exact h.cWide, by rw [book_setN (by decide) (by decide)]; exact h.cCell, by rw [book_setN (by decide) (by decide)]; exact h.cEvent, book_setF h.csz (by decide) (by decide), fun i h0 h1 qWide qCell qEvent qSeen => by rw [book_setN (by omega) qSeen]; exact h.cno i h0 h1 qWide qCell qEvent qSeen,
    hKWide, by have := h.nWide; omega, h.lWide, fun g hg => .inl (h.oWide g hg),
    hKCell, by have := h.nCell; omega, h.lCell, fun g hg => .inl (h.oCell g hg),
    hKEvent, by have := h.nEvent; omega, h.lEvent, fun g hg => .inl (h.oEvent g hg),
    hkind, by rw [List.length_append, List.length_singleton]; have := h.nSeen; omega, fun i e he => by rcases snocGetPlays he with rfl | he; exact hn; exact h.lSeen i e he, fun g hg => (hO g hg).imp (h.oSeen g) id,
    h.sWideCell,
    h.sWideEvent,
    fun g hy hx => by rcases hO g hx with q | q | q; exact h.sWideSeen g hy q; (have := (h.kWide.from hy).2; omega); exact (hfree g q).1 (h.oWide g hy),
    h.sCellEvent,
    fun g hy hx => by rcases hO g hx with q | q | q; exact h.sCellSeen g hy q; (have := (h.kCell.from hy).2; omega); exact (hfree g q).1 (h.oCell g hy),
    fun g hy hx => by rcases hO g hx with q | q | q; exact h.sEventSeen g hy q; (have := (h.kEvent.from hy).2; omega); exact (hfree g q).1 (h.oEvent g hy),
    by omega⟩, ⟨hchg.os, hchg.tape, hchg.output, hchg.size, fun k hk hn => hchg.block k hk (fun e => hn (e.imp id (fun q => h.oSeen k (.inl q))))⟩⟩
  rw [book_set0 h.csz]
  simp

theorem bkPlays_apart {w : World} {base kb cnt : Nat} {O : Nat → Prop} (h : BkPlays w base kb cnt O) : Calls Tryz.prog 26 #[.pointer (some ⟨kb, 0, none⟩)] w fun r w' => r = .returned (.bool true) ∧ Chg O w w' := by
  obtain ⟨C, hWide, hCell, hEvent, hSeen, eWide, eCell, eEvent, eSeen, h⟩ := h
  have hcm := h.cm
  refine (apartPlays_any (M := 4000000) h.kWide h.lWide h.cWide (by have := h.nWide; omega) h.kCell h.lCell h.cCell (by have := h.nCell; omega) h.kEvent h.lEvent h.cEvent (by have := h.nEvent; omega) h.kSeen h.lSeen h.cSeen (by have := h.nSeen; omega) h.sWideCell h.sWideEvent h.sWideSeen h.sCellEvent h.sCellSeen h.sEventSeen (by decide) h.blk h.cno).mono ?_
  rintro r w' ⟨rfl, hc⟩
  exact ⟨rfl, ⟨hc.os, hc.tape, hc.output, hc.size, fun k hk hn => hc.block k hk (fun e => hn (by
    rcases e with e | e | e | e
    · exact h.oWide k e
    · exact h.oCell k e
    · exact h.oEvent k e
    · exact h.oSeen k e))⟩⟩
end

end Go.Proofs.YthmmbldhbdnfpaaGreatDoor

/- The document's attempts: how they stand; what may not stand there. -/
import Derived.Test.YtlphjkgjcfhihaaHistA
import Derived.Test.YtlphjkgjcfhihaaBookAttempt
namespace Go.Proofs.Ytlphjkgjcfhihaa
open Go.RowKit
set_option linter.unusedVariables false
set_option linter.unusedSimpArgs false

/-- may it not stand there? -/
def wrongS (s : HS) (x : Ev) : Bool :=
  decide (x.th < 0 ∨ 4 ≤ x.th) || decide (x.k < 1 ∨ 11 < x.k) || s.ended x.th.toNat || (decide (x.k ≠ 11) && ((s.opn x.th.toNat).isSome != decide (2 ≤ x.k ∧ x.k ≤ 8)))
theorem wrong_none (s : HS) (x : Ev) (i : Nat) : (wrongS s x = true ↔ stepH s x i = none) := by
  unfold wrongS stepH
  by_cases h1 : x.th < 0 ∨ 4 ≤ x.th
  · simp [h1]
  rw [if_neg h1, decide_eq_false h1]
  by_cases h2 : s.ended x.th.toNat = true
  · simp [h2]
  rw [if_neg h2]
  have h2' : s.ended x.th.toNat = false := by simpa using h2
  rw [h2']
  cases ho : s.opn x.th.toNat with
  | none =>
    simp only [Option.isSome_none, Bool.false_or, Bool.or_false]
    by_cases c1 : x.k = 1
    · simp [c1]
    by_cases c9 : x.k = 9
    · simp [c9]
    by_cases c10 : x.k = 10
    · simp [c10]
    by_cases c11 : x.k = 11
    · simp [c11]
    rw [if_neg c1, if_neg c9, if_neg (by omega)]
    simp
    omega
  | some j =>
    simp only [Option.isSome_some, Bool.false_or, Bool.or_false]
    by_cases c1 : 2 ≤ x.k ∧ x.k ≤ 6
    · rw [if_pos c1]
      simp
      omega
    by_cases c7 : x.k = 7
    · simp [c7]
    by_cases c8 : x.k = 8
    · simp [c8]
    by_cases c11 : x.k = 11
    · simp [c11]
    rw [if_neg c1, if_neg c7, if_neg c8, if_neg c11]
    simp
    omega

theorem fourR {t : Nat} (h : t < 4) : t = 0 ∨ t = 1 ∨ t = 2 ∨ t = 3 := by omega
def openI : Option Nat → Int
  | none => -1
  | some j => j
def encStand (s : HS) : List Value :=
  [.int .i64 (openI (s.opn 0)), .int .i64 (openI (s.opn 1)), .int .i64 (openI (s.opn 2)), .int .i64 (openI (s.opn 3)), .bool (s.ended 0), .bool (s.ended 1), .bool (s.ended 2), .bool (s.ended 3)]
theorem encStand_opn (s : HS) {t : Nat} (h : t < 4) : (encStand s).toArray[t]? = some (.int .i64 (openI (s.opn t))) := by
  rcases fourR h with rfl | rfl | rfl | rfl <;> rfl
theorem encStand_ended (s : HS) {t : Nat} (h : t < 4) : (encStand s).toArray[4 + t]? = some (.bool (s.ended t)) := by
  rcases fourR h with rfl | rfl | rfl | rfl <;> rfl
theorem encStand_set_opn (s : HS) {t : Nat} (h : t < 4) (o : Option Nat) (l : List Att) : (encStand s).toArray.setIfInBounds t (.int .i64 (openI o)) = (encStand ⟨l, upd s.opn t o, s.ended⟩).toArray := by
  rcases fourR h with rfl | rfl | rfl | rfl <;> rfl
theorem encStand_set_ended (s : HS) {t : Nat} (h : t < 4) (b : Bool) (l : List Att) : (encStand s).toArray.setIfInBounds (4 + t) (.bool b) = (encStand ⟨l, s.opn, upd s.ended t b⟩).toArray := by
  rcases fourR h with rfl | rfl | rfl | rfl <;> rfl

/-- a list's attempt, with where its events lie -/
def encP2 (p : Att × Value) : List Value := encAtt p.1 p.2
theorem encP2_len : ∀ p, (encP2 p).length = 8 := fun _ => rfl

/-- how the document's Of stands: the Stand in block bs, the attempts in a row, the events of each in a row of its own -/
structure HeldR (w : World) (base bs : Nat) (v : Value) (ps : List (Att × Value)) (s : HS) : Prop where
  st : w.heap[bs]? = some (.cells (encStand s).toArray 63 (0, 0))
  fst : ps.map Prod.fst = s.atts
  row : w.ownsRow base 73 8 v ps.length (ps.flatMap encP2)
  own : ∀ (j : Nat) p, ps[j]? = some p → w.ownsRow base 57 4 p.2 p.1.done.length (p.1.done.flatMap encEv)
  bb : bs < base
  ne : ∀ (j g : Nat) p, ps[j]? = some p → p.2.ownBlock = some g → v.ownBlock ≠ some g
  lg : ∀ (i j g : Nat) p q, i ≠ j → ps[i]? = some p → ps[j]? = some q → p.2.ownBlock = some g → q.2.ownBlock ≠ some g

/-- the blocks that it owns -/
def ownsR (bs : Nat) (v : Value) (ps : List (Att × Value)) (k : Nat) : Prop := k = bs ∨ v.ownBlock = some k ∨ ∃ (j : Nat) (p : Att × Value), ps[j]? = some p ∧ p.2.ownBlock = some k

/-- what one event leaves -/
def TakeR (w w' : World) (base bs : Nat) (v : Value) (ps : List (Att × Value)) (s' : HS) (v' : Value) : Prop :=
  ∃ ps', HeldR w' base bs v' ps' s' ∧ Chg (ownsR bs v ps) w w' ∧ ∀ k, ownsR bs v' ps' k → ownsR bs v ps k ∨ w.heap.size ≤ k

theorem HeldR.below {w w' : World} {base bs : Nat} {v : Value} {ps : List (Att × Value)} {s : HS} (h : HeldR w base bs v ps s) (hb : Below w.heap.size w w') : HeldR w' base bs v ps s :=
  ⟨blk hb h.st, h.fst, ownRow_keep h.row (fun g _ hg => hb.block g hg), fun j p hp => ownRow_keep (h.own j p hp) (fun g _ hg => hb.block g hg), h.bb, h.ne, h.lg⟩

/-- the Stand alone is turned -/
theorem HeldR.stand {w w' : World} {base bs : Nat} {v : Value} {ps : List (Att × Value)} {s s' : HS} (h : HeldR w base bs v ps s) (hc : Chg (fun k => k = bs) w w') (hs : w'.heap[bs]? = some (.cells (encStand s').toArray 63 (0, 0))) (ha : s'.atts = s.atts) :
    TakeR w w' base bs v ps s' v :=
  ⟨ps, ⟨hs, by rw [ha]; exact h.fst, ownsRow_chg h.row hc (fun g hg e => by have := rowLt h.row hg; have := h.bb; omega), fun j p hp => ownsRow_chg (h.own j p hp) hc (fun g hg e => by have := rowLt (h.own j p hp) hg; have := h.bb; omega), h.bb, h.ne, h.lg⟩,
    ⟨hc.os, hc.tape, hc.output, hc.size, fun k hk hn => hc.block k hk (fun e => hn (.inl e))⟩, fun k hk => .inl hk⟩

theorem flatPut {α : Type} {enc : α → List Value} {sz : Nat} (he : ∀ a, (enc a).length = sz) : ∀ (l : List α) (k : Nat) (y : α), k < l.length → (l.set k y).flatMap enc = (l.flatMap enc).take (k * sz) ++ enc y ++ (l.flatMap enc).drop (k * sz + sz)
  | [], k, y, h => by simp at h
  | a :: l, 0, y, _ => by
    have h1 := he a
    rw [List.set_cons_zero, List.flatMap_cons, List.flatMap_cons, Nat.zero_mul, List.take_zero, List.nil_append, Nat.zero_add, ← h1, List.drop_left]
  | a :: l, k + 1, y, h => by
    have h1 := he a
    have ih := flatPut he l k y (by simpa using h)
    rw [List.set_cons_succ, List.flatMap_cons, List.flatMap_cons, ih]
    have e1 : (k + 1) * sz = (enc a).length + k * sz := by rw [h1, Nat.add_mul]; omega
    rw [e1, List.take_length_add_append, Nat.add_assoc, List.drop_length_add_append]
    simp

theorem setAt {α : Type} {l : List α} {k i : Nat} {y z : α} (h : (l.set k y)[i]? = some z) : i = k ∧ z = y ∨ i ≠ k ∧ l[i]? = some z := by
  rw [List.getElem?_set] at h
  split at h
  · rename_i q
    split at h
    · cases h; exact .inl ⟨q.symm, rfl⟩
    · cases h
  · rename_i q
    exact .inr ⟨fun e => q e.symm, h⟩
theorem snocAt {α : Type} {l : List α} {i : Nat} {y z : α} (h : (l ++ [y])[i]? = some z) : i = l.length ∧ z = y ∨ l[i]? = some z := by
  rcases Nat.lt_or_ge i l.length with h1 | h1
  · rw [List.getElem?_append_left h1] at h; exact .inr h
  · rw [List.getElem?_append_right h1] at h
    have := (List.getElem?_eq_some_iff.1 h).1
    simp at this
    obtain rfl : i = l.length := by omega
    simp at h
    exact .inl ⟨rfl, h.symm⟩
theorem map_set_modify {ps : List (Att × Value)} {atts : List Att} {k : Nat} {p : Att × Value} {f : Att → Att} {v : Value} (h : ps.map Prod.fst = atts) (hk : ps[k]? = some p) : (ps.set k (f p.1, v)).map Prod.fst = atts.modify k f := by
  subst h
  rw [List.map_set]
  apply List.ext_getElem?
  intro i
  rw [List.getElem?_set, List.getElem?_modify]
  have hlt := (List.getElem?_eq_some_iff.1 hk).1
  by_cases e : k = i
  · subst e
    rw [if_pos rfl, if_pos (by simpa using hlt)]
    simp [hk]
  · rw [if_neg e]
    simp [e]

/-- an attempt begins -/
theorem HeldR.begin {w w1 w2 : World} {base bs : Nat} {v v' : Value} {ps : List (Att × Value)} {s s' : HS} {a : Att} (h : HeldR w base bs v ps s) (hc1 : Chg (fun k => k = bs) w w1) (hs1 : w1.heap[bs]? = some (.cells (encStand s').toArray 63 (0, 0)))
    (hg : w1.grownBy w2 v.ownBlock) (hrow : w2.ownsRow base 73 8 v' (ps.length + 1) (ps.flatMap encP2 ++ encAtt a (.slice none 0 0))) (hf : ∀ g, v'.ownBlock = some g → v.ownBlock = some g ∨ w.heap.size ≤ g) (ha : s'.atts = s.atts ++ [a]) (hd : a.done = []) :
    TakeR w w2 base bs v ps s' v' := by
  have hbb := h.bb
  have hc2 : Chg (fun k => v.ownBlock = some k) w1 w2 := (Chg.refl _ w1).grown hg (fun k hk => .inl hk)
  have hvb : ∀ g, v.ownBlock = some g → base ≤ g := fun g hg => (rowLt h.row hg).1
  have hkeep : ∀ (j : Nat) p, ps[j]? = some p → ∀ g, p.2.ownBlock = some g → g < w.heap.size → w2.heap[g]? = w.heap[g]? := fun j p hp g hg hl => by
    rw [hc2.block g (Nat.lt_of_lt_of_le hl hc1.size) (fun e => h.ne j g p hp hg e), hc1.block g hl (fun e => by have := rowLt (h.own j p hp) hg; omega)]
  refine ⟨ps ++ [(a, .slice none 0 0)], ⟨chgblk hc2 hs1 (fun e => by have := hvb _ e; omega), ?_, ?_, fun j p hp => ?_, hbb, fun j g p hp hg2 e => ?_, fun i j g p q hij hp hq hg2 e => ?_⟩, ?_, fun k hk => ?_⟩
  · rw [List.map_append, h.fst, ha]; rfl
  · rw [List.length_append, flat_snoc]; exact hrow
  · rcases snocAt hp with ⟨_, rfl⟩ | hp
    · rw [hd]; exact World.ownsRow_nil _ _ _ _
    · exact ownRow_keep (h.own j p hp) fun g hg2 hl => hkeep j p hp g hg2 hl
  · rcases snocAt hp with ⟨_, rfl⟩ | hp
    · simp [Value.ownBlock] at hg2
    · rcases hf g e with e | e
      · exact h.ne j g p hp hg2 e
      · have := rowLt (h.own j p hp) hg2; omega
  · rcases snocAt hp with ⟨_, rfl⟩ | hp
    · simp [Value.ownBlock] at hg2
    · rcases snocAt hq with ⟨_, rfl⟩ | hq
      · simp [Value.ownBlock] at e
      · exact h.lg i j g p q hij hp hq hg2 e
  · exact (Chg.then_ (S := ownsR bs v ps) (T := fun k => v.ownBlock = some k) ⟨hc1.os, hc1.tape, hc1.output, hc1.size, fun k hk hn => hc1.block k hk (fun e => hn (.inl e))⟩ hc2 (fun k _ hk => .inr (.inl hk)))
  · rcases hk with rfl | hk | ⟨j, p, hp, hg2⟩
    · exact .inl (.inl rfl)
    · exact (hf k hk).imp (fun e => .inr (.inl e)) id
    · rcases snocAt hp with ⟨_, rfl⟩ | hp
      · simp [Value.ownBlock] at hg2
      · exact .inl (.inr (.inr ⟨j, p, hp, hg2⟩))

/-- an event more within an attempt -/
theorem HeldR.moreEv {w w1 w2 : World} {base bs g n c k : Nat} {dv' : Value} {ps : List (Att × Value)} {s s' : HS} {p : Att × Value} {x : Ev} (h : HeldR w base bs (.slice (some ⟨g, 0, none⟩) n c) ps s) (hk : ps[k]? = some p) (hn : n = ps.length)
    (hc1 : Chg (fun _ => False) w w1) (hg : w1.grownBy w2 p.2.ownBlock) (hown : w2.ownsRow base 57 4 dv' (p.1.done.length + 1) (p.1.done.flatMap encEv ++ encEv x)) (hf : ∀ g, dv'.ownBlock = some g → p.2.ownBlock = some g ∨ w.heap.size ≤ g)
    (ha : s'.atts = s.atts.modify k (more x)) (hs : encStand s' = encStand s) : TakeR w (w2.setCell ⟨g, k * 8 + 7, none⟩ dv') base bs (.slice (some ⟨g, 0, none⟩) n c) ps s' (.slice (some ⟨g, 0, none⟩) n c) := by
  subst hn
  have hbb := h.bb
  have hc2 : Chg (fun j => p.2.ownBlock = some j) w1 w2 := (Chg.refl _ w1).grown hg (fun j hj => .inl hj)
  have hc12 : Chg (fun j => p.2.ownBlock = some j) w w2 := Chg.then_ ⟨hc1.os, hc1.tape, hc1.output, hc1.size, fun j hj hn => hc1.block j hj id⟩ hc2 (fun _ _ hj => hj)
  have hgb := rowLt h.row (g := g) rfl
  have hpg : ∀ d, p.2.ownBlock = some d → d ≠ g := fun d hd e => h.ne k d p hk hd (by rw [e]; rfl)
  have hdg : ∀ d, dv'.ownBlock = some d → d ≠ g := fun d hd e => by
    rcases hf d hd with h1 | h1
    · exact hpg d h1 e
    · omega
  have hset : ∀ b, b ≠ g → (w2.setCell ⟨g, k * 8 + 7, none⟩ dv').heap[b]? = w2.heap[b]? := fun b hb => Below.heap_setCell _ _ _ _ hb
  have hrow2 : w2.ownsRow base 73 8 (.slice (some ⟨g, 0, none⟩) ps.length c) ps.length (ps.flatMap encP2) := ownsRow_chg h.row hc12 (fun d hd e => by
    simp only [Value.ownBlock, Option.some.injEq] at hd
    exact hpg d e hd.symm)
  refine ⟨ps.set k (more x p.1, dv'), ⟨?_, ?_, ?_, fun j q hq => ?_, hbb, fun j d q hq hd e => ?_, fun i j d q r hij hq hr hd e => ?_⟩, ?_, fun d hd => ?_⟩
  · rw [hset bs (by omega), hs]
    exact chgblk hc12 h.st (fun e => by have := rowLt (h.own k p hk) e; omega)
  · rw [ha]; exact map_set_modify h.fst hk
  · rw [List.length_set]
    exact (rowSet encP2_len hrow2 hk (y := (more x p.1, dv')) (j := 7) (u := dv') rfl (by decide)).2
  · rcases setAt hq with ⟨_, rfl⟩ | ⟨hj, hq2⟩
    · show (w2.setCell _ _).ownsRow _ _ _ dv' (more x p.1).done.length ((more x p.1).done.flatMap encEv)
      unfold more
      simp only [List.length_append, flat_snoc]
      exact ownRow_keep hown fun d hd _ => hset d (hdg d hd)
    · refine ownRow_keep (h.own j q hq2) fun d hd hl => ?_
      rw [hset d (fun e => h.ne j d q hq2 hd (by rw [e]; rfl)), hc12.block d hl (fun e => h.lg j k d q p hj hq2 hk hd e)]
  · simp only [Value.ownBlock, Option.some.injEq] at e
    rcases setAt hq with ⟨_, rfl⟩ | ⟨hj, hq2⟩
    · exact hdg d hd e.symm
    · exact h.ne j d q hq2 hd (by rw [← e]; rfl)
  · rcases setAt hq with ⟨rfl, rfl⟩ | ⟨hi, hq2⟩
    · rcases setAt hr with ⟨rfl, rfl⟩ | ⟨hj, hr2⟩
      · exact hij rfl
      · rcases hf d hd with h1 | h1
        · exact h.lg i j d p r hij hk hr2 h1 e
        · have := rowLt (h.own j r hr2) e; omega
    · rcases setAt hr with ⟨rfl, rfl⟩ | ⟨hj, hr2⟩
      · rcases hf d e with h1 | h1
        · exact h.lg i j d q p hij hq2 hk hd h1
        · have := rowLt (h.own i q hq2) hd; omega
      · exact h.lg i j d q r hij hq2 hr2 hd e
  · exact (Chg.then_ (S := ownsR bs (.slice (some ⟨g, 0, none⟩) ps.length c) ps) (T := fun j => p.2.ownBlock = some j) (Chg.refl _ w) hc12 (fun d _ hd => .inr (.inr ⟨k, p, hk, hd⟩))).setCell (p := ⟨g, k * 8 + 7, none⟩) (.inl (.inr (.inl rfl))) _
  · rcases hd with rfl | hd | ⟨j, q, hq, hd⟩
    · exact .inl (.inl rfl)
    · exact .inl (.inr (.inl hd))
    · rcases setAt hq with ⟨_, rfl⟩ | ⟨hj, hq2⟩
      · exact (hf d hd).imp (fun e => .inr (.inr ⟨k, p, hk, e⟩)) id
      · exact .inl (.inr (.inr ⟨j, q, hq2, hd⟩))

/-- an attempt is closed -/
theorem HeldR.close {w w1 : World} {base bs g n c k o : Nat} {ps : List (Att × Value)} {s s' : HS} {p : Att × Value} {f : Att → Att} {u : Value} {cs : Array Value} (h : HeldR w base bs (.slice (some ⟨g, 0, none⟩) n c) ps s) (hk : ps[k]? = some p) (hn : n = ps.length)
    (hc1 : Chg (fun j => j = bs) w w1) (hs1 : w1.heap[bs]? = some (.cells cs 63 (0, 0))) (hs : cs.setIfInBounds o u = (encStand s').toArray) (hfd : (f p.1).done = p.1.done) (ha : s'.atts = s.atts.modify k f) :
    TakeR w ((w1.setCells g (k * 8) (encAtt (f p.1) p.2)).setCell ⟨bs, o, none⟩ u) base bs (.slice (some ⟨g, 0, none⟩) n c) ps s' (.slice (some ⟨g, 0, none⟩) n c) := by
  subst hn
  have hbb := h.bb
  have hgb := rowLt h.row (g := g) rfl
  have hklt := (List.getElem?_eq_some_iff.1 hk).1
  have hsx : ∀ b, b ≠ bs → ((w1.setCells g (k * 8) (encAtt (f p.1) p.2)).setCell ⟨bs, o, none⟩ u).heap[b]? = (w1.setCells g (k * 8) (encAtt (f p.1) p.2)).heap[b]? := fun b hb => Below.heap_setCell _ _ _ _ hb
  have hrow1 : w1.ownsRow base 73 8 (.slice (some ⟨g, 0, none⟩) ps.length c) ps.length (ps.flatMap encP2) := ownsRow_chg h.row hc1 (fun d hd e => by have := rowLt h.row hd; omega)
  have hrow2 := setCells_rowAttempt hrow1 (vs := encAtt (f p.1) p.2) rfl hklt
  have hput := flatPut encP2_len ps k (f p.1, p.2) hklt
  refine ⟨ps.set k (f p.1, p.2), ⟨?_, ?_, ?_, fun j q hq => ?_, hbb, fun j d q hq hd e => ?_, fun i j d q r hij hq hr hd e => ?_⟩, ?_, fun d hd => ?_⟩
  · rw [← hs]
    refine block_setCell u ?_
    rw [heap_setCells_otherAttempt (by omega)]
    exact hs1
  · rw [ha]; exact map_set_modify h.fst hk
  · rw [List.length_set, hput]
    refine ownRow_keep hrow2 fun d hd _ => hsx d (fun e => by simp only [Value.ownBlock, Option.some.injEq] at hd; omega)
  · have key : ∀ (q : Att × Value), ps[j]? = some q → ((w1.setCells g (k * 8) (encAtt (f p.1) p.2)).setCell ⟨bs, o, none⟩ u).ownsRow base 57 4 q.2 q.1.done.length (q.1.done.flatMap encEv) := fun q hq =>
      ownRow_keep (h.own j q hq) fun d hd hl => by
        have hlt := rowLt (h.own j q hq) hd
        rw [hsx d (by omega), heap_setCells_otherAttempt (fun e => h.ne j d q hq hd (by rw [e]; rfl)), hc1.block d hl (by omega)]
    rcases setAt hq with ⟨rfl, rfl⟩ | ⟨hj, hq2⟩
    · have := key p hk
      show World.ownsRow _ _ _ _ _ (f p.1).done.length ((f p.1).done.flatMap encEv)
      rw [hfd]; exact this
    · exact key q hq2
  · rcases setAt hq with ⟨_, rfl⟩ | ⟨hj, hq2⟩
    · exact h.ne k d p hk hd e
    · exact h.ne j d q hq2 hd e
  · rcases setAt hq with ⟨rfl, rfl⟩ | ⟨hi, hq2⟩
    · rcases setAt hr with ⟨rfl, rfl⟩ | ⟨hj, hr2⟩
      · exact hij rfl
      · exact h.lg i j d p r hij hk hr2 hd e
    · rcases setAt hr with ⟨rfl, rfl⟩ | ⟨hj, hr2⟩
      · exact h.lg i j d q p hij hq2 hk hd e
      · exact h.lg i j d q r hij hq2 hr2 hd e
  · have hc0 : Chg (ownsR bs (.slice (some ⟨g, 0, none⟩) ps.length c) ps) w w1 := ⟨hc1.os, hc1.tape, hc1.output, hc1.size, fun j hj hn => hc1.block j hj (fun e => hn (.inl e))⟩
    exact (Chg.setCellsAttempt (.inr (.inl rfl)) _ _ hc0).setCell (p := ⟨bs, o, none⟩) (.inl (.inl rfl)) _
  · rcases hd with rfl | hd | ⟨j, q, hq, hd⟩
    · exact .inl (.inl rfl)
    · exact .inl (.inr (.inl hd))
    · rcases setAt hq with ⟨_, rfl⟩ | ⟨hj, hq2⟩
      · exact .inl (.inr (.inr ⟨k, p, hk, hd⟩))
      · exact .inl (.inr (.inr ⟨j, q, hq2, hd⟩))
end Go.Proofs.Ytlphjkgjcfhihaa

/- How the state of history.Of lies in memory, and that a turn of it lies there too. -/
import Derived.Test.YtilkpmjkiohfdaaGreatDoorHistD
namespace Go.Proofs.YtilkpmjkiohfdaaGreatDoor
set_option linter.unusedVariables false
set_option linter.unusedSimpArgs false
open Go.RowKit

def openV (gb : Nat → Nat) : Option Nat → Value
  | none => .pointer none
  | some j => .pointer (some ⟨gb j, 0, none⟩)

/-- the four threads -/
def encThr (s : HS) (gb : Nat → Nat) : List Value :=
  [openV gb (s.opn 0), .bool (s.ended 0), openV gb (s.opn 1), .bool (s.ended 1), openV gb (s.opn 2), .bool (s.ended 2), openV gb (s.opn 3), .bool (s.ended 3)]

theorem four {t : Nat} (h : t < 4) : t = 0 ∨ t = 1 ∨ t = 2 ∨ t = 3 := by omega
theorem encThr_opn (s : HS) (gb : Nat → Nat) {t : Nat} (h : t < 4) : (encThr s gb).toArray[2 * t]? = some (openV gb (s.opn t)) := by
  rcases four h with rfl | rfl | rfl | rfl <;> rfl
theorem encThr_ended (s : HS) (gb : Nat → Nat) {t : Nat} (h : t < 4) : (encThr s gb).toArray[2 * t + 1]? = some (.bool (s.ended t)) := by
  rcases four h with rfl | rfl | rfl | rfl <;> rfl
theorem encThr_set_opn (s : HS) (gb : Nat → Nat) {t : Nat} (h : t < 4) (o : Option Nat) (l : List Att) : (encThr s gb).toArray.setIfInBounds (2 * t) (openV gb o) = (encThr ⟨l, upd s.opn t o, s.ended⟩ gb).toArray := by
  rcases four h with rfl | rfl | rfl | rfl <;> rfl
theorem encThr_set_ended (s : HS) (gb : Nat → Nat) {t : Nat} (h : t < 4) (b : Bool) (l : List Att) : (encThr s gb).toArray.setIfInBounds (2 * t + 1) (.bool b) = (encThr ⟨l, s.opn, upd s.ended t b⟩ gb).toArray := by
  rcases four h with rfl | rfl | rfl | rfl <;> rfl
theorem openV_congr {gb gb' : Nat → Nat} {o : Option Nat} (h : ∀ j, o = some j → gb j = gb' j) : openV gb o = openV gb' o := by
  cases o with
  | none => rfl
  | some j => simp [openV, h j rfl]
theorem encThr_congr {s : HS} {gb gb' : Nat → Nat} (h : ∀ t j, s.opn t = some j → gb j = gb' j) : encThr s gb = encThr s gb' := by
  unfold encThr
  rw [openV_congr (h 0), openV_congr (h 1), openV_congr (h 2), openV_congr (h 3)]

def ptrs (gb : Nat → Nat) (n : Nat) : List Value := (List.range n).map fun j => .pointer (some ⟨gb j, 0, none⟩)
theorem ptrs_at {gb : Nat → Nat} {n j : Nat} (h : j < n) : (ptrs gb n)[j]? = some (.pointer (some ⟨gb j, 0, none⟩)) := by simp [ptrs, h]
theorem ptrs_snoc (gb : Nat → Nat) (n g : Nat) : ptrs (upd gb n g) (n + 1) = ptrs gb n ++ [.pointer (some ⟨g, 0, none⟩)] := by
  unfold ptrs
  rw [List.range_succ, List.map_append]
  congr 1
  · apply List.map_congr_left
    intro j hj
    have := List.mem_range.1 hj
    simp [upd, show j ≠ n from by omega]
  · simp [upd]

structure Held (w : World) (base bt : Nat) (gb : Nat → Nat) (dv : Nat → Value) (all : Value) (lab : Nat → Nat) (s : HS) : Prop where
  thr : w.heap[bt]? = some (.cells (encThr s gb).toArray 131 (0, 0))
  bbt : base ≤ bt
  att : ∀ (j : Nat) (a : Att), s.atts[j]? = some a → AttAt w base (gb j) (dv j) a
  row : w.ownsRow base 128 1 all s.atts.length (ptrs gb s.atts.length)
  l0 : lab bt = 0
  l1 : ∀ g, all.ownBlock = some g → lab g = 1
  l2 : ∀ j, j < s.atts.length → lab (gb j) = 2 * j + 2
  l3 : ∀ j g, j < s.atts.length → (dv j).ownBlock = some g → lab g = 2 * j + 3

theorem AttAt.chg {S : Nat → Prop} {w w' : World} {base g : Nat} {dv : Value} {a : Att} (h : AttAt w base g dv a) (c : Chg S w w') (h1 : ¬ S g) (h2 : ∀ d, dv.ownBlock = some d → ¬ S d) : AttAt w' base g dv a :=
  ⟨chgblk c h.1 h1, h.2.1, ownsRow_chg h.2.2 c h2⟩

theorem Held.lt0 {w : World} {base bt : Nat} {gb : Nat → Nat} {dv : Nat → Value} {all : Value} {lab : Nat → Nat} {s : HS} (h : Held w base bt gb dv all lab s) : bt < w.heap.size := lt_of_block h.thr
theorem Held.lt1 {w : World} {base bt : Nat} {gb : Nat → Nat} {dv : Nat → Value} {all : Value} {lab : Nat → Nat} {s : HS} (h : Held w base bt gb dv all lab s) {g : Nat} (hg : all.ownBlock = some g) : g < w.heap.size := (h.row.lt g hg).2
theorem Held.lt2 {w : World} {base bt : Nat} {gb : Nat → Nat} {dv : Nat → Value} {all : Value} {lab : Nat → Nat} {s : HS} (h : Held w base bt gb dv all lab s) {j : Nat} (hj : j < s.atts.length) : gb j < w.heap.size := by
  obtain ⟨a, ha⟩ := some_at hj
  exact lt_of_block (h.att j a ha).1
theorem Held.lt3 {w : World} {base bt : Nat} {gb : Nat → Nat} {dv : Nat → Value} {all : Value} {lab : Nat → Nat} {s : HS} (h : Held w base bt gb dv all lab s) {j g : Nat} (hj : j < s.atts.length) (hg : (dv j).ownBlock = some g) : g < w.heap.size := by
  obtain ⟨a, ha⟩ := some_at hj
  exact ((h.att j a ha).2.2.lt g hg).2

theorem Held.keep {w w' : World} {base bt : Nat} {gb : Nat → Nat} {dv : Nat → Value} {all : Value} {lab : Nat → Nat} {s : HS} (h : Held w base bt gb dv all lab s) (c : Below w.heap.size w w') : Held w' base bt gb dv all lab s :=
  have c' : Chg (fun _ => False) w w' := Chg.of_below c
  ⟨blk c h.thr, h.bbt, fun j a ha => (h.att j a ha).chg c' id (fun _ _ => id), ownsRow_chg h.row c' (fun _ _ => id), h.l0, h.l1, h.l2, h.l3⟩

/-- a turn that leaves the attempts -/
theorem Held.same {S : Nat → Prop} {w w' : World} {base bt : Nat} {gb : Nat → Nat} {dv : Nat → Value} {all : Value} {lab : Nat → Nat} {s s' : HS} (h : Held w base bt gb dv all lab s) (c : Chg S w w') (hS : ∀ k, S k → k = bt) (hs : s'.atts = s.atts)
    (ht : w'.heap[bt]? = some (.cells (encThr s' gb).toArray 131 (0, 0))) : Held w' base bt gb dv all lab s' := by
  refine ⟨ht, h.bbt, fun j a ha => ?_, ?_, h.l0, h.l1, by rw [hs]; exact h.l2, by rw [hs]; exact h.l3⟩
  · rw [hs] at ha
    have hj := (List.getElem?_eq_some_iff.1 ha).1
    refine (h.att j a ha).chg c (fun hk => ?_) (fun d hd hk => ?_)
    · have h1 := h.l2 j hj
      rw [hS _ hk, h.l0] at h1
      omega
    · have h1 := h.l3 j d hj hd
      rw [hS _ hk, h.l0] at h1
      omega
  · rw [hs]
    refine ownsRow_chg h.row c (fun g hg hk => ?_)
    have h1 := h.l1 g hg
    rw [hS _ hk, h.l0] at h1
    omega

/-- a turn of one attempt -/
theorem Held.turn {S : Nat → Prop} {w w' : World} {base bt : Nat} {gb : Nat → Nat} {dv : Nat → Value} {all dv' : Value} {lab : Nat → Nat} {s s' : HS} (h : Held w base bt gb dv all lab s) {j : Nat} {a : Att} (hj : s.atts[j]? = some a) {f : Att → Att}
    (c : Chg S w w') (hS : ∀ k, S k → k = bt ∨ k = gb j ∨ (dv j).ownBlock = some k) (hs : s'.atts = s.atts.modify j f)
    (ht : w'.heap[bt]? = some (.cells (encThr s' gb).toArray 131 (0, 0)))
    (ha : AttAt w' base (gb j) dv' (f a)) (hd : ∀ d, dv'.ownBlock = some d → (dv j).ownBlock = some d ∨ w.heap.size ≤ d) : ∃ lab', Held w' base bt gb (upd dv j dv') all lab' s' := by
  have hjl := (List.getElem?_eq_some_iff.1 hj).1
  have hl : s'.atts.length = s.atts.length := by rw [hs]; simp
  have old : ∀ x, x < w.heap.size → (if x < w.heap.size then lab x else 2 * j + 3) = lab x := fun x hx => if_pos hx
  refine ⟨fun x => if x < w.heap.size then lab x else 2 * j + 3, ht, h.bbt, fun i b hb => ?_, ?_, ?_, fun g hg => ?_, fun i hi => ?_, fun i g hi hg => ?_⟩
  · rw [hs, modify_at] at hb
    by_cases hij : i = j
    · subst hij
      rw [hj] at hb
      simp only [Option.map_some, if_pos, Option.some.injEq] at hb
      subst hb
      simpa [upd] using ha
    · have hb' : s.atts[i]? = some b := by
        cases hc : s.atts[i]? with
        | none => rw [hc] at hb; cases hb
        | some c => rw [hc] at hb; simpa [hij] using hb
      have hil := (List.getElem?_eq_some_iff.1 hb').1
      simp only [upd, if_neg hij]
      refine (h.att i b hb').chg c (fun hk => ?_) (fun d hdd hk => ?_)
      · have h1 := h.l2 i hil
        rcases hS _ hk with hk | hk | hk
        · rw [hk, h.l0] at h1; omega
        · rw [hk, h.l2 j hjl] at h1; omega
        · rw [h.l3 j _ hjl hk] at h1; omega
      · have h1 := h.l3 i d hil hdd
        rcases hS _ hk with hk | hk | hk
        · rw [hk, h.l0] at h1; omega
        · rw [hk, h.l2 j hjl] at h1; omega
        · rw [h.l3 j _ hjl hk] at h1; omega
  · rw [hl]
    refine ownsRow_chg h.row c (fun g hg hk => ?_)
    have h1 := h.l1 g hg
    rcases hS _ hk with hk | hk | hk
    · rw [hk, h.l0] at h1; omega
    · rw [hk, h.l2 j hjl] at h1; omega
    · rw [h.l3 j _ hjl hk] at h1; omega
  · show (if bt < w.heap.size then lab bt else 2 * j + 3) = 0
    rw [old _ h.lt0, h.l0]
  · show (if g < w.heap.size then lab g else 2 * j + 3) = 1
    rw [old _ (h.lt1 hg), h.l1 g hg]
  · rw [hl] at hi
    show (if gb i < w.heap.size then lab (gb i) else 2 * j + 3) = 2 * i + 2
    rw [old _ (h.lt2 hi), h.l2 i hi]
  · rw [hl] at hi
    show (if g < w.heap.size then lab g else 2 * j + 3) = 2 * i + 3
    by_cases hij : i = j
    · subst hij
      simp only [upd, if_pos] at hg
      rcases hd g hg with h1 | h1
      · rw [old _ (h.lt3 hi h1), h.l3 i g hi h1]
      · rw [if_neg (by omega)]
    · simp only [upd, if_neg hij] at hg
      rw [old _ (h.lt3 hi hg), h.l3 i g hi hg]

/-- an attempt begins, and is laid behind the others -/
theorem Held.begin {S : Nat → Prop} {w w1 w2 : World} {base bt g t : Nat} {gb : Nat → Nat} {dv : Nat → Value} {all all' : Value} {lab : Nat → Nat} {s : HS} (h : Held w base bt gb dv all lab s) (x : Ev) (i : Nat)
    (ho : ∀ t j, s.opn t = some j → j < s.atts.length) (ht : t < 4)
    (c1 : Chg (fun j => j = bt) w w1) (hg : w.heap.size ≤ g) (hg1 : w1.heap[g]? = some (.cells (encAtt (begun x i) (.slice none 0 0)).toArray 138 (0, 0)))
    (hb1 : w1.heap[bt]? = some (.cells ((encThr s gb).toArray.setIfInBounds (2 * t) (.pointer (some ⟨g, 0, none⟩))) 131 (0, 0)))
    (c2 : Chg S w1 w2) (hS : ∀ k, S k → all.ownBlock = some k) (hrow : w2.ownsRow base 128 1 all' (s.atts.length + 1) (ptrs gb s.atts.length ++ [.pointer (some ⟨g, 0, none⟩)]))
    (ha : ∀ k, all'.ownBlock = some k → all.ownBlock = some k ∨ w1.heap.size ≤ k) :
    ∃ lab', Held w2 base bt (upd gb s.atts.length g) (upd dv s.atts.length (.slice none 0 0)) all' lab' ⟨s.atts ++ [begun x i], upd s.opn t (some s.atts.length), s.ended⟩ := by
  have hbb := h.bbt
  have h0 := h.lt0
  have hgl := lt_of_block hg1
  have hsz := c1.size
  have nS : ∀ k, k < w.heap.size → lab k ≠ 1 → ¬ S k := fun k hk hn hk' => hn (h.l1 k (hS k hk'))
  have nS' : ∀ k, w.heap.size ≤ k → ¬ S k := fun k hk hk' => by have := h.lt1 (hS k hk'); omega
  have gold : ∀ j, j < s.atts.length → upd gb s.atts.length g j = gb j := fun j hj => by simp [upd, show j ≠ s.atts.length from by omega]
  have dold : ∀ j, j < s.atts.length → upd dv s.atts.length (.slice none 0 0) j = dv j := fun j hj => by simp [upd, show j ≠ s.atts.length from by omega]
  have hlen : (s.atts ++ [begun x i]).length = s.atts.length + 1 := by simp
  have old : ∀ y, y < w.heap.size → (if y < w.heap.size then lab y else if y < w1.heap.size then 2 * s.atts.length + 2 else 1) = lab y := fun y hy => if_pos hy
  refine ⟨fun y => if y < w.heap.size then lab y else if y < w1.heap.size then 2 * s.atts.length + 2 else 1, ?_, hbb, fun j b hb => ?_, ?_, ?_, fun k hk => ?_, fun j hj => ?_, fun j k hj hk => ?_⟩
  · rw [chgblk c2 hb1 (nS bt h0 (by rw [h.l0]; omega))]
    have e1 : encThr s gb = encThr s (upd gb s.atts.length g) := encThr_congr fun u j hj => (gold j (ho u j hj)).symm
    have e2 : Value.pointer (some ⟨g, 0, none⟩) = openV (upd gb s.atts.length g) (some s.atts.length) := by simp [openV, upd]
    rw [e1, e2, encThr_set_opn s _ ht]
  · rcases Nat.lt_or_ge j s.atts.length with hj | hj
    · simp only [List.getElem?_append_left hj] at hb
      rw [gold j hj, dold j hj]
      refine ((h.att j b hb).chg c1 (fun e => ?_) (fun d hd e => ?_)).chg c2 (nS _ (h.lt2 hj) (by rw [h.l2 j hj]; omega)) (fun d hd => nS _ (h.lt3 hj hd) (by rw [h.l3 j d hj hd]; omega))
      · have := h.l2 j hj; rw [e, h.l0] at this; omega
      · have := h.l3 j d hj hd; rw [e, h.l0] at this; omega
    · simp only [List.getElem?_append_right hj] at hb
      have hl := (List.getElem?_eq_some_iff.1 hb).1
      simp at hl
      obtain rfl : j = s.atts.length := by omega
      simp at hb
      subst hb
      simp only [upd, if_pos]
      exact ⟨chgblk c2 hg1 (nS' g hg), by omega, World.ownsRow_nil _ _ _ _⟩
  · simp only [hlen]
    rw [ptrs_snoc]
    exact hrow
  · show (if bt < w.heap.size then lab bt else _) = 0
    rw [if_pos h0, h.l0]
  · show (if k < w.heap.size then lab k else if k < w1.heap.size then 2 * s.atts.length + 2 else 1) = 1
    rcases ha k hk with h1 | h1
    · rw [old _ (h.lt1 h1), h.l1 k h1]
    · rw [if_neg (by omega), if_neg (by omega)]
  · simp only [hlen] at hj
    show (if upd gb s.atts.length g j < w.heap.size then lab (upd gb s.atts.length g j) else if upd gb s.atts.length g j < w1.heap.size then 2 * s.atts.length + 2 else 1) = 2 * j + 2
    rcases Nat.lt_or_ge j s.atts.length with hj' | hj'
    · rw [gold j hj', old _ (h.lt2 hj'), h.l2 j hj']
    · obtain rfl : j = s.atts.length := by omega
      simp only [upd, if_pos]
      rw [if_neg (by omega), if_pos hgl]
  · simp only [hlen] at hj
    show (if k < w.heap.size then lab k else if k < w1.heap.size then 2 * s.atts.length + 2 else 1) = 2 * j + 3
    rcases Nat.lt_or_ge j s.atts.length with hj' | hj'
    · rw [dold j hj'] at hk
      rw [old _ (h.lt3 hj' hk), h.l3 j k hj' hk]
    · obtain rfl : j = s.atts.length := by omega
      simp [upd, Value.ownBlock] at hk

end Go.Proofs.YtilkpmjkiohfdaaGreatDoor

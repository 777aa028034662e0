/- Put together by merge.py out of XEmR.lean.tpl, XEmU.lean.tpl, XEmV.lean.tpl, XEmW.lean.tpl. -/
import Derived.Test.YtopdcjimpdalpaaGreatMEmP
namespace Go.Proofs.YtopdcjimpdalpaaGreat
open Go.RowKit
set_option linter.unusedVariables false
set_option linter.unusedSimpArgs false

section
/-- instructions with jumps to V of their labels -/
def rsv (V : Nat → Int) (c : Cd) : List OpD := c.ops.mapIdx (fun i o => match jmpAt c.jmp i with
  | none => o
  | some q => { o with n := V q })
structure At (V : Nat → Int) (c : Cd) (p : Nat) (ls : List Int) (R : List OpD) : Prop where
  over : c.over = false
  len : c.ops.length = p
  labs : c.labs = ls
  keys : ∀ x ∈ c.jmp, x.1 < p
  res : rsv V c = R
variable {V : Nat → Int} {c c0 : Cd} {p : Nat} {ls : List Int} {R : List OpD} {t : TxC}
theorem jmpAt_snoc (l : List (Nat × Nat)) (x : Nat × Nat) (i : Nat) : jmpAt (l ++ [x]) i = if x.1 = i then some x.2 else jmpAt l i := by unfold jmpAt; rw [List.foldl_append]; rfl
theorem jmpAt_none {l : List (Nat × Nat)} {n : Nat} (h : ∀ x ∈ l, x.1 < n) {i : Nat} (hi : n ≤ i) : jmpAt l i = none := by
  have key : ∀ (l : List (Nat × Nat)) (a : Nat → Option Nat), (∀ x ∈ l, x.1 < n) → a i = none → l.foldl (fun a p i => if p.1 = i then some p.2 else a i) a i = none := by
    intro l
    induction l with
    | nil => intro a _ ha; exact ha
    | cons x l ih =>
      intro a hl ha
      refine ih _ (fun y hy => hl y (List.mem_cons_of_mem _ hy)) ?_
      have := hl x List.mem_cons_self
      show (if x.1 = i then some x.2 else a i) = none
      rw [if_neg (by omega)]
      exact ha
  exact key l _ h rfl
theorem At.cast (h : At V c p ls R) {p' : Nat} {ls' : List Int} {R' : List OpD} (hp : p = p') (hl : ls = ls') (hR : R = R') : At V c p' ls' R' := by subst hp; subst hl; subst hR; exact h
theorem At.put (h : At V c p ls R) (o : OpD) (hp : p < 262144) : At V (c.put o) (p + 1) ls (R ++ [o]) := by
  have e : c.put o = { c with ops := c.ops ++ [o] } := by unfold Cd.put; rw [if_neg (by rw [h.len]; omega)]
  rw [e]
  refine ⟨h.over, by simp [h.len], h.labs, fun x hx => Nat.lt_succ_of_lt (h.keys x hx), ?_⟩
  have hr := h.res
  unfold rsv at hr ⊢
  simp only
  rw [List.mapIdx_append, hr]
  congr 1
  simp only [List.mapIdx_cons, List.mapIdx_nil, Nat.zero_add, h.len, jmpAt_none h.keys (Nat.le_refl _)]
theorem At.mark (h : At V c p ls R) (l : Nat) (o : OpD) (hp : p < 262144) : At V ((c.mark l).put o) (p + 1) ls (R ++ [{ o with n := V l }]) := by
  have e : (c.mark l).put o = { c with ops := c.ops ++ [o], jmp := c.jmp ++ [(c.ops.length, l)] } := by
    unfold Cd.put Cd.mark
    simp only
    rw [if_neg (by rw [h.len]; omega)]
  rw [e]
  refine ⟨h.over, by simp [h.len], h.labs, fun x hx => ?_, ?_⟩
  · rcases List.mem_append.1 hx with hx | hx
    · exact Nat.lt_succ_of_lt (h.keys x hx)
    · simp at hx; rw [hx]; simp [h.len]
  · have hr := h.res
    unfold rsv at hr ⊢
    simp only
    rw [List.mapIdx_append, ← hr]
    congr 1
    · refine List.ext_getElem? fun i => ?_
      rw [List.getElem?_mapIdx, List.getElem?_mapIdx]
      cases ho : c.ops[i]? with
      | none => rfl
      | some o' =>
        have hi := (List.getElem?_eq_some_iff.1 ho).1
        rw [jmpAt_snoc, if_neg (by simp only; omega)]
    · simp only [List.mapIdx_cons, List.mapIdx_nil, Nat.zero_add, jmpAt_snoc, if_pos]
theorem At.jump (h : At V c p ls R) (l : Nat) (hp : p < 262144) : At V (c.jump l) (p + 1) ls (R ++ [⟨6, 0, 0, 0, 0, V l⟩]) := h.mark l _ hp
theorem At.zero (h : At V c p ls R) (r : Int) (l : Nat) (hp : p < 262144) : At V (c.zero r l) (p + 1) ls (R ++ [⟨7, 0, r, 0, 0, V l⟩]) := h.mark l _ hp
theorem At.label (h : At V c p ls R) : At V c.label p (ls ++ [-1]) R := ⟨h.over, h.len, by unfold Cd.label; rw [h.labs], h.keys, h.res⟩
theorem At.here (h : At V c p ls R) (l : Nat) : At V (c.here l) p (ls.set l p) R := ⟨h.over, h.len, by unfold Cd.here; rw [h.labs, h.len], h.keys, h.res⟩
theorem emset_at (a b : List Int) (j : Nat) (v : Int) : (a ++ b).set (a.length + j) v = a ++ b.set j v := by rw [List.set_append_right _ _ (by omega), Nat.add_sub_cancel_left]
theorem emset_at0 (a b : List Int) (v : Int) : (a ++ b).set a.length v = a ++ b.set 0 v := emset_at a b 0 v

def code_search (t : TxC) (V : Nat → Int) (q : Nat) (found : Nat) : List OpD := [⟨4, 0, 3, 7, 0, t.base + 2⟩, ⟨7, 0, 3, 0, 0, V (q + 1)⟩, ⟨1, 0, 4, 0, 0, 1⟩, ⟨3, 2, 3, 4, 0, 0⟩, ⟨2, 0, 5, 3, 0, 0⟩, ⟨3, 1, 5, 5, 0, 0⟩, ⟨1, 0, 4, 0, 0, t.log⟩, ⟨3, 1, 5, 4, 0, 0⟩, ⟨4, 0, 6, 5, 0, 0⟩, ⟨3, 2, 6, 1, 0, 0⟩, ⟨7, 0, 6, 0, 0, V (found)⟩, ⟨6, 0, 0, 0, 0, V (q)⟩]
def labs_search (p : Nat) : List Int := [((p + 1 : Nat) : Int), ((p + 12 : Nat) : Int)]
theorem labs_search_len (p : Nat) : (labs_search p).length = 2 := by simp [labs_search]
theorem code_search_len (t : TxC) (V : Nat → Int) (q : Nat) (found : Nat) : (code_search t V q found).length = 12 := by simp [code_search]
set_option maxHeartbeats 1000000 in
theorem at_search (h : At V c0 p ls R) (found : Nat) (hp : p + 12 ≤ 262144) : At V (c0.search t found) (p + 12) (ls ++ labs_search p) (R ++ code_search t V ls.length found) := by
  obtain rfl := h.labs
  have eloop : c0.labs.length = c0.labs.length + 0 := by rfl
  have h1 := h.label
  have emiss : (c0.label).labs.length = c0.labs.length + 1 := by simp [Cd.label]
  have h2 := h1.label
  have h3 := h2.put ⟨4, 0, 3, 7, 0, t.base + 2⟩ (by omega)
  have h4 := h3.here (c0).labs.length
  have h5 := h4.zero 3 (c0.label).labs.length (by omega)
  have h6 := (h5.put ⟨1, 0, 4, 0, 0, 1⟩ (by omega)).put ⟨3, 2, 3, 4, 0, 0⟩ (by omega)
  have h7 := h6.put ⟨2, 0, 5, 3, 0, 0⟩ (by omega)
  have h8 := h7.put ⟨3, 1, 5, 5, 0, 0⟩ (by omega)
  have h9 := (h8.put ⟨1, 0, 4, 0, 0, t.log⟩ (by omega)).put ⟨3, 1, 5, 4, 0, 0⟩ (by omega)
  have h10 := h9.put ⟨4, 0, 6, 5, 0, 0⟩ (by omega)
  have h11 := h10.put ⟨3, 2, 6, 1, 0, 0⟩ (by omega)
  have h12 := h11.zero 6 found (by omega)
  have h13 := h12.jump (c0).labs.length (by omega)
  have h14 := h13.here (c0.label).labs.length
  refine h14.cast (by omega) ?_ ?_
  · simp [labs_search, Cd.label, emset_at, emset_at0] <;> omega
  · simp [code_search, Cd.label]
def code_unless (t : TxC) (V : Nat → Int) (q : Nat) (r : Int) (l : Nat) : List OpD := [⟨7, 0, r, 0, 0, V (q)⟩, ⟨6, 0, 0, 0, 0, V (l)⟩]
def labs_unless (p : Nat) : List Int := [((p + 2 : Nat) : Int)]
theorem labs_unless_len (p : Nat) : (labs_unless p).length = 1 := by simp [labs_unless]
theorem code_unless_len (t : TxC) (V : Nat → Int) (q : Nat) (r : Int) (l : Nat) : (code_unless t V q r l).length = 2 := by simp [code_unless]
set_option maxHeartbeats 1000000 in
theorem at_unless (h : At V c0 p ls R) (r : Int) (l : Nat) (hp : p + 2 ≤ 262144) : At V (c0.unless t r l) (p + 2) (ls ++ labs_unless p) (R ++ code_unless t V ls.length r l) := by
  obtain rfl := h.labs
  have eon : c0.labs.length = c0.labs.length + 0 := by rfl
  have h1 := h.label
  have h2 := h1.zero r (c0).labs.length (by omega)
  have h3 := h2.jump l (by omega)
  have h4 := h3.here (c0).labs.length
  refine h4.cast (by omega) ?_ ?_
  · simp [labs_unless, Cd.label, emset_at, emset_at0] <;> omega
  · simp [code_unless, Cd.label]
def code_lock (t : TxC) (V : Nat → Int) (q : Nat) : List OpD := [⟨2, 0, 5, 6, 0, 0⟩, ⟨1, 0, 4, 0, 0, (t.words + 2)⟩, ⟨3, 1, 5, 4, 0, 0⟩]
def labs_lock (p : Nat) : List Int := []
theorem labs_lock_len (p : Nat) : (labs_lock p).length = 0 := by simp [labs_lock]
theorem code_lock_len (t : TxC) (V : Nat → Int) (q : Nat) : (code_lock t V q).length = 3 := by simp [code_lock]
set_option maxHeartbeats 1000000 in
theorem at_lock (h : At V c0 p ls R) (hp : p + 3 ≤ 262144) : At V (c0.lock t) (p + 3) (ls ++ labs_lock p) (R ++ code_lock t V ls.length) := by
  obtain rfl := h.labs
  have h1 := h.put ⟨2, 0, 5, 6, 0, 0⟩ (by omega)
  have h2 := (h1.put ⟨1, 0, 4, 0, 0, (t.words + 2)⟩ (by omega)).put ⟨3, 1, 5, 4, 0, 0⟩ (by omega)
  refine h2.cast (by omega) ?_ ?_
  · simp [labs_lock]
  · simp [code_lock, Cd.label]
def code_old (t : TxC) (V : Nat → Int) (q : Nat) : List OpD := [⟨2, 0, 5, 6, 0, 0⟩, ⟨1, 0, 4, 0, 0, (t.base + 8)⟩, ⟨3, 1, 5, 4, 0, 0⟩]
def labs_old (p : Nat) : List Int := []
theorem labs_old_len (p : Nat) : (labs_old p).length = 0 := by simp [labs_old]
theorem code_old_len (t : TxC) (V : Nat → Int) (q : Nat) : (code_old t V q).length = 3 := by simp [code_old]
set_option maxHeartbeats 1000000 in
theorem at_old (h : At V c0 p ls R) (hp : p + 3 ≤ 262144) : At V (c0.old t) (p + 3) (ls ++ labs_old p) (R ++ code_old t V ls.length) := by
  obtain rfl := h.labs
  have h1 := h.put ⟨2, 0, 5, 6, 0, 0⟩ (by omega)
  have h2 := (h1.put ⟨1, 0, 4, 0, 0, (t.base + 8)⟩ (by omega)).put ⟨3, 1, 5, 4, 0, 0⟩ (by omega)
  refine h2.cast (by omega) ?_ ?_
  · simp [labs_old]
  · simp [code_old, Cd.label]
def code_start (t : TxC) (V : Nat → Int) (q : Nat) : List OpD := [⟨1, 0, 0, 0, 0, t.arena⟩, ⟨5, 0, 7, 0, 0, t.base + 4⟩]
def labs_start (p : Nat) : List Int := []
theorem labs_start_len (p : Nat) : (labs_start p).length = 0 := by simp [labs_start]
theorem code_start_len (t : TxC) (V : Nat → Int) (q : Nat) : (code_start t V q).length = 2 := by simp [code_start]
set_option maxHeartbeats 1000000 in
theorem at_start (h : At V c0 p ls R) (hp : p + 2 ≤ 262144) : At V (c0.start t) (p + 2) (ls ++ labs_start p) (R ++ code_start t V ls.length) := by
  obtain rfl := h.labs
  have h1 := h.put ⟨1, 0, 0, 0, 0, t.arena⟩ (by omega)
  have h2 := h1.put ⟨5, 0, 7, 0, 0, t.base + 4⟩ (by omega)
  refine h2.cast (by omega) ?_ ?_
  · simp [labs_start]
  · simp [code_start, Cd.label]
def code_abort (t : TxC) (V : Nat → Int) (q : Nat) : List OpD := [⟨12, 0, 7, 7, 0, 8⟩, ⟨4, 0, 1, 7, 0, t.base + 5⟩, ⟨5, 0, 7, 1, 0, t.base + 4⟩]
def labs_abort (p : Nat) : List Int := []
theorem labs_abort_len (p : Nat) : (labs_abort p).length = 0 := by simp [labs_abort]
theorem code_abort_len (t : TxC) (V : Nat → Int) (q : Nat) : (code_abort t V q).length = 3 := by simp [code_abort]
set_option maxHeartbeats 1000000 in
theorem at_abort (h : At V c0 p ls R) (hp : p + 3 ≤ 262144) : At V (c0.abort t) (p + 3) (ls ++ labs_abort p) (R ++ code_abort t V ls.length) := by
  obtain rfl := h.labs
  have h1 := h.put ⟨12, 0, 7, 7, 0, 8⟩ (by omega)
  have h2 := h1.put ⟨4, 0, 1, 7, 0, t.base + 5⟩ (by omega)
  have h3 := h2.put ⟨5, 0, 7, 1, 0, t.base + 4⟩ (by omega)
  refine h3.cast (by omega) ?_ ?_
  · simp [labs_abort]
  · simp [code_abort, Cd.label]
def code_tell (t : TxC) (V : Nat → Int) (q : Nat) : List OpD := [⟨1, 0, 1, 0, 0, t.prints⟩, ⟨4, 0, 2, 7, 0, t.base + 3⟩, ⟨7, 0, 2, 0, 0, V (q + 1)⟩, ⟨4, 0, 3, 1, 0, 0⟩, ⟨11, 0, 3, 0, 0, 0⟩, ⟨1, 0, 4, 0, 0, 1⟩, ⟨3, 1, 1, 4, 0, 0⟩, ⟨1, 0, 4, 0, 0, 1⟩, ⟨3, 2, 2, 4, 0, 0⟩, ⟨6, 0, 0, 0, 0, V (q)⟩]
def labs_tell (p : Nat) : List Int := [((p + 2 : Nat) : Int), ((p + 10 : Nat) : Int)]
theorem labs_tell_len (p : Nat) : (labs_tell p).length = 2 := by simp [labs_tell]
theorem code_tell_len (t : TxC) (V : Nat → Int) (q : Nat) : (code_tell t V q).length = 10 := by simp [code_tell]
set_option maxHeartbeats 1000000 in
theorem at_tell (h : At V c0 p ls R) (hp : p + 10 ≤ 262144) : At V (c0.tell t) (p + 10) (ls ++ labs_tell p) (R ++ code_tell t V ls.length) := by
  obtain rfl := h.labs
  have eloop : c0.labs.length = c0.labs.length + 0 := by rfl
  have h1 := h.label
  have efin : (c0.label).labs.length = c0.labs.length + 1 := by simp [Cd.label]
  have h2 := h1.label
  have h3 := h2.put ⟨1, 0, 1, 0, 0, t.prints⟩ (by omega)
  have h4 := h3.put ⟨4, 0, 2, 7, 0, t.base + 3⟩ (by omega)
  have h5 := h4.here (c0).labs.length
  have h6 := h5.zero 2 (c0.label).labs.length (by omega)
  have h7 := h6.put ⟨4, 0, 3, 1, 0, 0⟩ (by omega)
  have h8 := h7.put ⟨11, 0, 3, 0, 0, 0⟩ (by omega)
  have h9 := (h8.put ⟨1, 0, 4, 0, 0, 1⟩ (by omega)).put ⟨3, 1, 1, 4, 0, 0⟩ (by omega)
  have h10 := (h9.put ⟨1, 0, 4, 0, 0, 1⟩ (by omega)).put ⟨3, 2, 2, 4, 0, 0⟩ (by omega)
  have h11 := h10.jump (c0).labs.length (by omega)
  have h12 := h11.here (c0.label).labs.length
  refine h12.cast (by omega) ?_ ?_
  · simp [labs_tell, Cd.label, emset_at, emset_at0] <;> omega
  · simp [code_tell, Cd.label]
def code_read (t : TxC) (V : Nat → Int) (q : Nat) (abort : Nat) : List OpD := code_search t V (q + 2) (q) ++ [⟨2, 0, 5, 1, 0, 0⟩, ⟨1, 0, 4, 0, 0, 15⟩, ⟨3, 6, 5, 4, 0, 0⟩, ⟨2, 0, 0, 5, 0, 0⟩, ⟨1, 0, 4, 0, 0, (t.words + 2)⟩, ⟨3, 1, 5, 4, 0, 0⟩, ⟨4, 0, 3, 5, 0, 0⟩, ⟨2, 0, 6, 3, 0, 0⟩, ⟨1, 0, 4, 0, 0, 1⟩, ⟨3, 6, 6, 4, 0, 0⟩] ++ code_unless t V (q + 4) 6 abort ++ [⟨2, 0, 6, 3, 0, 0⟩, ⟨1, 0, 4, 0, 0, 1⟩, ⟨3, 10, 6, 4, 0, 0⟩, ⟨4, 0, 4, 7, 0, t.base + 0⟩, ⟨3, 13, 4, 6, 0, 0⟩] ++ code_unless t V (q + 5) 4 abort ++ [⟨4, 0, 2, 1, 0, 0⟩, ⟨4, 0, 4, 5, 0, 0⟩, ⟨3, 2, 4, 3, 0, 0⟩] ++ code_unless t V (q + 6) 4 abort ++ [⟨1, 0, 4, 0, 0, 1⟩, ⟨3, 9, 4, 0, 0, 0⟩, ⟨4, 0, 6, 7, 0, t.base + 1⟩, ⟨3, 7, 6, 4, 0, 0⟩, ⟨5, 0, 7, 6, 0, t.base + 1⟩, ⟨6, 0, 0, 0, 0, V (q + 1)⟩, ⟨4, 0, 2, 5, 0, 1⟩, ⟨12, 0, 1, 2, 0, 2⟩]
def labs_read (p : Nat) : List Int := [((p + 42 : Nat) : Int), ((p + 43 : Nat) : Int)] ++ labs_search (p) ++ labs_unless (p + 22) ++ labs_unless (p + 29) ++ labs_unless (p + 34)
theorem labs_read_len (p : Nat) : (labs_read p).length = 7 := by simp [labs_read, labs_search_len, labs_unless_len]
theorem code_read_len (t : TxC) (V : Nat → Int) (q : Nat) (abort : Nat) : (code_read t V q abort).length = 44 := by simp [code_read, code_search_len, code_unless_len]
set_option maxHeartbeats 1000000 in
theorem at_read (h : At V c0 p ls R) (abort : Nat) (hp : p + 44 ≤ 262144) : At V (c0.read t abort) (p + 44) (ls ++ labs_read p) (R ++ code_read t V ls.length abort) := by
  obtain rfl := h.labs
  have efound : c0.labs.length = c0.labs.length + 0 := by rfl
  have h1 := h.label
  have edn : (c0.label).labs.length = c0.labs.length + 1 := by simp [Cd.label]
  have h2 := h1.label
  have h3 := at_search (t := t) h2 ((c0).labs.length) (by omega)
  have h4 := h3.put ⟨2, 0, 5, 1, 0, 0⟩ (by omega)
  have h5 := (h4.put ⟨1, 0, 4, 0, 0, 15⟩ (by omega)).put ⟨3, 6, 5, 4, 0, 0⟩ (by omega)
  have h6 := h5.put ⟨2, 0, 0, 5, 0, 0⟩ (by omega)
  have h7 := (h6.put ⟨1, 0, 4, 0, 0, (t.words + 2)⟩ (by omega)).put ⟨3, 1, 5, 4, 0, 0⟩ (by omega)
  have h8 := h7.put ⟨4, 0, 3, 5, 0, 0⟩ (by omega)
  have h9 := h8.put ⟨2, 0, 6, 3, 0, 0⟩ (by omega)
  have h10 := (h9.put ⟨1, 0, 4, 0, 0, 1⟩ (by omega)).put ⟨3, 6, 6, 4, 0, 0⟩ (by omega)
  have h11 := at_unless (t := t) h10 6 abort (by omega)
  have h12 := h11.put ⟨2, 0, 6, 3, 0, 0⟩ (by omega)
  have h13 := (h12.put ⟨1, 0, 4, 0, 0, 1⟩ (by omega)).put ⟨3, 10, 6, 4, 0, 0⟩ (by omega)
  have h14 := h13.put ⟨4, 0, 4, 7, 0, t.base + 0⟩ (by omega)
  have h15 := h14.put ⟨3, 13, 4, 6, 0, 0⟩ (by omega)
  have h16 := at_unless (t := t) h15 4 abort (by omega)
  have h17 := h16.put ⟨4, 0, 2, 1, 0, 0⟩ (by omega)
  have h18 := h17.put ⟨4, 0, 4, 5, 0, 0⟩ (by omega)
  have h19 := h18.put ⟨3, 2, 4, 3, 0, 0⟩ (by omega)
  have h20 := at_unless (t := t) h19 4 abort (by omega)
  have h21 := h20.put ⟨1, 0, 4, 0, 0, 1⟩ (by omega)
  have h22 := h21.put ⟨3, 9, 4, 0, 0, 0⟩ (by omega)
  have h23 := h22.put ⟨4, 0, 6, 7, 0, t.base + 1⟩ (by omega)
  have h24 := h23.put ⟨3, 7, 6, 4, 0, 0⟩ (by omega)
  have h25 := h24.put ⟨5, 0, 7, 6, 0, t.base + 1⟩ (by omega)
  have h26 := h25.jump (c0.label).labs.length (by omega)
  have h27 := h26.here (c0).labs.length
  have h28 := h27.put ⟨4, 0, 2, 5, 0, 1⟩ (by omega)
  have h29 := h28.here (c0.label).labs.length
  have h30 := h29.put ⟨12, 0, 1, 2, 0, 2⟩ (by omega)
  refine h30.cast (by omega) ?_ ?_
  · simp [labs_read, labs_search_len, labs_unless_len, Cd.label, emset_at, emset_at0] <;> omega
  · simp [code_read, Cd.label, labs_search_len, labs_unless_len]
def code_write (t : TxC) (V : Nat → Int) (q : Nat) : List OpD := code_search t V (q + 3) (q) ++ [⟨4, 0, 3, 7, 0, t.base + 2⟩, ⟨2, 0, 4, 3, 0, 0⟩, ⟨1, 0, 6, 0, 0, 64⟩, ⟨3, 13, 4, 6, 0, 0⟩] ++ code_unless t V (q + 5) 4 (q + 2) ++ [⟨13, 0, 0, 0, 0, 6⟩, ⟨2, 0, 5, 3, 0, 0⟩, ⟨3, 1, 5, 5, 0, 0⟩, ⟨1, 0, 4, 0, 0, t.log⟩, ⟨3, 1, 5, 4, 0, 0⟩, ⟨5, 0, 5, 1, 0, 0⟩, ⟨1, 0, 4, 0, 0, 1⟩, ⟨3, 1, 3, 4, 0, 0⟩, ⟨5, 0, 7, 3, 0, t.base + 2⟩, ⟨5, 0, 5, 2, 0, 1⟩, ⟨12, 0, 1, 2, 0, 3⟩]
def labs_write (p : Nat) : List Int := [((p + 27 : Nat) : Int), ((p + 28 : Nat) : Int), ((p + 19 : Nat) : Int)] ++ labs_search (p) ++ labs_unless (p + 16)
theorem labs_write_len (p : Nat) : (labs_write p).length = 6 := by simp [labs_write, labs_search_len, labs_unless_len]
theorem code_write_len (t : TxC) (V : Nat → Int) (q : Nat) : (code_write t V q).length = 29 := by simp [code_write, code_search_len, code_unless_len]
set_option maxHeartbeats 1000000 in
theorem at_write (h : At V c0 p ls R) (hp : p + 29 ≤ 262144) : At V (c0.write t) (p + 29) (ls ++ labs_write p) (R ++ code_write t V ls.length) := by
  obtain rfl := h.labs
  have efound : c0.labs.length = c0.labs.length + 0 := by rfl
  have h1 := h.label
  have edn : (c0.label).labs.length = c0.labs.length + 1 := by simp [Cd.label]
  have h2 := h1.label
  have eroom : (c0.label.label).labs.length = c0.labs.length + 2 := by simp [Cd.label]
  have h3 := h2.label
  have h4 := at_search (t := t) h3 ((c0).labs.length) (by omega)
  have h5 := h4.put ⟨4, 0, 3, 7, 0, t.base + 2⟩ (by omega)
  have h6 := h5.put ⟨2, 0, 4, 3, 0, 0⟩ (by omega)
  have h7 := (h6.put ⟨1, 0, 6, 0, 0, 64⟩ (by omega)).put ⟨3, 13, 4, 6, 0, 0⟩ (by omega)
  have h8 := at_unless (t := t) h7 4 ((c0.label.label).labs.length) (by omega)
  have h9 := h8.put ⟨13, 0, 0, 0, 0, 6⟩ (by omega)
  have h10 := h9.here (c0.label.label).labs.length
  have h11 := h10.put ⟨2, 0, 5, 3, 0, 0⟩ (by omega)
  have h12 := h11.put ⟨3, 1, 5, 5, 0, 0⟩ (by omega)
  have h13 := (h12.put ⟨1, 0, 4, 0, 0, t.log⟩ (by omega)).put ⟨3, 1, 5, 4, 0, 0⟩ (by omega)
  have h14 := h13.put ⟨5, 0, 5, 1, 0, 0⟩ (by omega)
  have h15 := (h14.put ⟨1, 0, 4, 0, 0, 1⟩ (by omega)).put ⟨3, 1, 3, 4, 0, 0⟩ (by omega)
  have h16 := h15.put ⟨5, 0, 7, 3, 0, t.base + 2⟩ (by omega)
  have h17 := h16.here (c0).labs.length
  have h18 := h17.put ⟨5, 0, 5, 2, 0, 1⟩ (by omega)
  have h19 := h18.here (c0.label).labs.length
  have h20 := h19.put ⟨12, 0, 1, 2, 0, 3⟩ (by omega)
  refine h20.cast (by omega) ?_ ?_
  · simp [labs_write, labs_search_len, labs_unless_len, Cd.label, emset_at, emset_at0] <;> omega
  · simp [code_write, Cd.label, labs_search_len, labs_unless_len]
def code_locks1 (t : TxC) (V : Nat → Int) (q : Nat) : List OpD := [⟨4, 0, 3, 5, 0, 0⟩, ⟨1, 0, 4, 0, 0, 15⟩, ⟨3, 6, 3, 4, 0, 0⟩, ⟨1, 0, 4, 0, 0, 1⟩, ⟨3, 9, 4, 3, 0, 0⟩, ⟨3, 7, 2, 4, 0, 0⟩]
def labs_locks1 (p : Nat) : List Int := []
theorem labs_locks1_len (p : Nat) : (labs_locks1 p).length = 0 := by simp [labs_locks1]
theorem code_locks1_len (t : TxC) (V : Nat → Int) (q : Nat) : (code_locks1 t V q).length = 6 := by simp [code_locks1]
set_option maxHeartbeats 1000000 in
theorem at_locks1 (h : At V c0 p ls R) (hp : p + 6 ≤ 262144) : At V (c0.locks1 t) (p + 6) (ls ++ labs_locks1 p) (R ++ code_locks1 t V ls.length) := by
  obtain rfl := h.labs
  have h1 := h.put ⟨4, 0, 3, 5, 0, 0⟩ (by omega)
  have h2 := (h1.put ⟨1, 0, 4, 0, 0, 15⟩ (by omega)).put ⟨3, 6, 3, 4, 0, 0⟩ (by omega)
  have h3 := h2.put ⟨1, 0, 4, 0, 0, 1⟩ (by omega)
  have h4 := h3.put ⟨3, 9, 4, 3, 0, 0⟩ (by omega)
  have h5 := h4.put ⟨3, 7, 2, 4, 0, 0⟩ (by omega)
  refine h5.cast (by omega) ?_ ?_
  · simp [labs_locks1]
  · simp [code_locks1, Cd.label]
def code_commit1 (t : TxC) (V : Nat → Int) (q : Nat) : List OpD := [⟨4, 0, 2, 5, 0, 0⟩, ⟨4, 0, 3, 5, 0, 1⟩, ⟨5, 0, 2, 3, 0, 0⟩]
def labs_commit1 (p : Nat) : List Int := []
theorem labs_commit1_len (p : Nat) : (labs_commit1 p).length = 0 := by simp [labs_commit1]
theorem code_commit1_len (t : TxC) (V : Nat → Int) (q : Nat) : (code_commit1 t V q).length = 3 := by simp [code_commit1]
set_option maxHeartbeats 1000000 in
theorem at_commit1 (h : At V c0 p ls R) (hp : p + 3 ≤ 262144) : At V (c0.commit1 t) (p + 3) (ls ++ labs_commit1 p) (R ++ code_commit1 t V ls.length) := by
  obtain rfl := h.labs
  have h1 := h.put ⟨4, 0, 2, 5, 0, 0⟩ (by omega)
  have h2 := h1.put ⟨4, 0, 3, 5, 0, 1⟩ (by omega)
  have h3 := h2.put ⟨5, 0, 2, 3, 0, 0⟩ (by omega)
  refine h3.cast (by omega) ?_ ?_
  · simp [labs_commit1]
  · simp [code_commit1, Cd.label]
def code_commit2 (t : TxC) (V : Nat → Int) (q : Nat) : List OpD := code_lock t V (q) ++ [⟨5, 0, 5, 1, 0, 0⟩]
def labs_commit2 (p : Nat) : List Int := [] ++ labs_lock (p)
theorem labs_commit2_len (p : Nat) : (labs_commit2 p).length = 0 := by simp [labs_commit2, labs_lock_len]
theorem code_commit2_len (t : TxC) (V : Nat → Int) (q : Nat) : (code_commit2 t V q).length = 4 := by simp [code_commit2, code_lock_len]
set_option maxHeartbeats 1000000 in
theorem at_commit2 (h : At V c0 p ls R) (hp : p + 4 ≤ 262144) : At V (c0.commit2 t) (p + 4) (ls ++ labs_commit2 p) (R ++ code_commit2 t V ls.length) := by
  obtain rfl := h.labs
  have h1 := at_lock (t := t) h (by omega)
  have h2 := h1.put ⟨5, 0, 5, 1, 0, 0⟩ (by omega)
  refine h2.cast (by omega) ?_ ?_
  · simp [labs_commit2, labs_lock_len, Cd.label, emset_at, emset_at0] <;> omega
  · simp [code_commit2, Cd.label, labs_lock_len]
def code_commit3 (t : TxC) (V : Nat → Int) (q : Nat) : List OpD := code_old t V (q) ++ [⟨4, 0, 2, 5, 0, 0⟩] ++ code_lock t V (q) ++ [⟨5, 0, 5, 2, 0, 0⟩]
def labs_commit3 (p : Nat) : List Int := [] ++ labs_old (p) ++ labs_lock (p + 4)
theorem labs_commit3_len (p : Nat) : (labs_commit3 p).length = 0 := by simp [labs_commit3, labs_lock_len, labs_old_len]
theorem code_commit3_len (t : TxC) (V : Nat → Int) (q : Nat) : (code_commit3 t V q).length = 8 := by simp [code_commit3, code_lock_len, code_old_len]
set_option maxHeartbeats 1000000 in
theorem at_commit3 (h : At V c0 p ls R) (hp : p + 8 ≤ 262144) : At V (c0.commit3 t) (p + 8) (ls ++ labs_commit3 p) (R ++ code_commit3 t V ls.length) := by
  obtain rfl := h.labs
  have h1 := at_old (t := t) h (by omega)
  have h2 := h1.put ⟨4, 0, 2, 5, 0, 0⟩ (by omega)
  have h3 := at_lock (t := t) h2 (by omega)
  have h4 := h3.put ⟨5, 0, 5, 2, 0, 0⟩ (by omega)
  refine h4.cast (by omega) ?_ ?_
  · simp [labs_commit3, labs_lock_len, labs_old_len, Cd.label, emset_at, emset_at0] <;> omega
  · simp [code_commit3, Cd.label, labs_lock_len, labs_old_len]
def code_locks2 (t : TxC) (V : Nat → Int) (q : Nat) (rel : Nat) : List OpD := code_lock t V (q) ++ [⟨4, 0, 3, 5, 0, 0⟩, ⟨2, 0, 4, 3, 0, 0⟩, ⟨1, 0, 2, 0, 0, 1⟩, ⟨3, 6, 4, 2, 0, 0⟩] ++ code_unless t V (q) 4 rel ++ [⟨2, 0, 4, 3, 0, 0⟩, ⟨1, 0, 2, 0, 0, (2 * t.th + 1)⟩, ⟨8, 0, 5, 4, 2, 0⟩, ⟨3, 2, 4, 3, 0, 0⟩] ++ code_unless t V (q + 1) 4 rel ++ code_old t V (q + 2) ++ [⟨5, 0, 5, 3, 0, 0⟩, ⟨1, 0, 4, 0, 0, 1⟩, ⟨3, 9, 4, 6, 0, 0⟩, ⟨4, 0, 3, 7, 0, t.base + 6⟩, ⟨3, 7, 3, 4, 0, 0⟩, ⟨5, 0, 7, 3, 0, t.base + 6⟩]
def labs_locks2 (p : Nat) : List Int := [] ++ labs_lock (p) ++ labs_unless (p + 7) ++ labs_unless (p + 13) ++ labs_old (p + 15)
theorem labs_locks2_len (p : Nat) : (labs_locks2 p).length = 2 := by simp [labs_locks2, labs_lock_len, labs_old_len, labs_unless_len]
theorem code_locks2_len (t : TxC) (V : Nat → Int) (q : Nat) (rel : Nat) : (code_locks2 t V q rel).length = 24 := by simp [code_locks2, code_lock_len, code_old_len, code_unless_len]
set_option maxHeartbeats 1000000 in
theorem at_locks2 (h : At V c0 p ls R) (rel : Nat) (hp : p + 24 ≤ 262144) : At V (c0.locks2 t rel) (p + 24) (ls ++ labs_locks2 p) (R ++ code_locks2 t V ls.length rel) := by
  obtain rfl := h.labs
  have h1 := at_lock (t := t) h (by omega)
  have h2 := h1.put ⟨4, 0, 3, 5, 0, 0⟩ (by omega)
  have h3 := h2.put ⟨2, 0, 4, 3, 0, 0⟩ (by omega)
  have h4 := h3.put ⟨1, 0, 2, 0, 0, 1⟩ (by omega)
  have h5 := h4.put ⟨3, 6, 4, 2, 0, 0⟩ (by omega)
  have h6 := at_unless (t := t) h5 4 rel (by omega)
  have h7 := h6.put ⟨2, 0, 4, 3, 0, 0⟩ (by omega)
  have h8 := h7.put ⟨1, 0, 2, 0, 0, (2 * t.th + 1)⟩ (by omega)
  have h9 := h8.put ⟨8, 0, 5, 4, 2, 0⟩ (by omega)
  have h10 := h9.put ⟨3, 2, 4, 3, 0, 0⟩ (by omega)
  have h11 := at_unless (t := t) h10 4 rel (by omega)
  have h12 := at_old (t := t) h11 (by omega)
  have h13 := h12.put ⟨5, 0, 5, 3, 0, 0⟩ (by omega)
  have h14 := h13.put ⟨1, 0, 4, 0, 0, 1⟩ (by omega)
  have h15 := h14.put ⟨3, 9, 4, 6, 0, 0⟩ (by omega)
  have h16 := h15.put ⟨4, 0, 3, 7, 0, t.base + 6⟩ (by omega)
  have h17 := h16.put ⟨3, 7, 3, 4, 0, 0⟩ (by omega)
  have h18 := h17.put ⟨5, 0, 7, 3, 0, t.base + 6⟩ (by omega)
  refine h18.cast (by omega) ?_ ?_
  · simp [labs_locks2, labs_lock_len, labs_old_len, labs_unless_len, Cd.label, emset_at, emset_at0] <;> omega
  · simp [code_locks2, Cd.label, labs_lock_len, labs_old_len, labs_unless_len]
def code_valid1 (t : TxC) (V : Nat → Int) (q : Nat) (rel : Nat) : List OpD := code_lock t V (q + 1) ++ [⟨4, 0, 2, 5, 0, 0⟩, ⟨2, 0, 4, 2, 0, 0⟩, ⟨1, 0, 3, 0, 0, 1⟩, ⟨3, 6, 4, 3, 0, 0⟩, ⟨7, 0, 4, 0, 0, V (q)⟩, ⟨1, 0, 3, 0, 0, (2 * t.th + 1)⟩, ⟨3, 2, 2, 3, 0, 0⟩] ++ code_unless t V (q + 1) 2 rel ++ code_old t V (q + 2) ++ [⟨4, 0, 2, 5, 0, 0⟩, ⟨1, 0, 3, 0, 0, 1⟩, ⟨3, 10, 2, 3, 0, 0⟩, ⟨4, 0, 4, 7, 0, t.base + 0⟩, ⟨3, 13, 4, 2, 0, 0⟩] ++ code_unless t V (q + 2) 4 rel
def labs_valid1 (p : Nat) : List Int := [((p + 16 : Nat) : Int)] ++ labs_lock (p) ++ labs_unless (p + 10) ++ labs_old (p + 12) ++ labs_unless (p + 20)
theorem labs_valid1_len (p : Nat) : (labs_valid1 p).length = 3 := by simp [labs_valid1, labs_lock_len, labs_old_len, labs_unless_len]
theorem code_valid1_len (t : TxC) (V : Nat → Int) (q : Nat) (rel : Nat) : (code_valid1 t V q rel).length = 22 := by simp [code_valid1, code_lock_len, code_old_len, code_unless_len]
set_option maxHeartbeats 1000000 in
theorem at_valid1 (h : At V c0 p ls R) (rel : Nat) (hp : p + 22 ≤ 262144) : At V (c0.valid1 t rel) (p + 22) (ls ++ labs_valid1 p) (R ++ code_valid1 t V ls.length rel) := by
  obtain rfl := h.labs
  have efree : c0.labs.length = c0.labs.length + 0 := by rfl
  have h1 := h.label
  have h2 := at_lock (t := t) h1 (by omega)
  have h3 := h2.put ⟨4, 0, 2, 5, 0, 0⟩ (by omega)
  have h4 := h3.put ⟨2, 0, 4, 2, 0, 0⟩ (by omega)
  have h5 := (h4.put ⟨1, 0, 3, 0, 0, 1⟩ (by omega)).put ⟨3, 6, 4, 3, 0, 0⟩ (by omega)
  have h6 := h5.zero 4 (c0).labs.length (by omega)
  have h7 := (h6.put ⟨1, 0, 3, 0, 0, (2 * t.th + 1)⟩ (by omega)).put ⟨3, 2, 2, 3, 0, 0⟩ (by omega)
  have h8 := at_unless (t := t) h7 2 rel (by omega)
  have h9 := at_old (t := t) h8 (by omega)
  have h10 := h9.put ⟨4, 0, 2, 5, 0, 0⟩ (by omega)
  have h11 := h10.here (c0).labs.length
  have h12 := (h11.put ⟨1, 0, 3, 0, 0, 1⟩ (by omega)).put ⟨3, 10, 2, 3, 0, 0⟩ (by omega)
  have h13 := h12.put ⟨4, 0, 4, 7, 0, t.base + 0⟩ (by omega)
  have h14 := h13.put ⟨3, 13, 4, 2, 0, 0⟩ (by omega)
  have h15 := at_unless (t := t) h14 4 rel (by omega)
  refine h15.cast (by omega) ?_ ?_
  · simp [labs_valid1, labs_lock_len, labs_old_len, labs_unless_len, Cd.label, emset_at, emset_at0] <;> omega
  · simp [code_valid1, Cd.label, labs_lock_len, labs_old_len, labs_unless_len]
def code_entries_l (t : TxC) (V : Nat → Int) (q : Nat) : List OpD := [⟨4, 0, 6, 7, 0, t.base + 2⟩, ⟨1, 0, 5, 0, 0, t.log⟩, ⟨7, 0, 6, 0, 0, V (q + 1)⟩] ++ code_locks1 t V (q + 2) ++ [⟨1, 0, 4, 0, 0, 2⟩, ⟨3, 1, 5, 4, 0, 0⟩, ⟨1, 0, 4, 0, 0, 1⟩, ⟨3, 2, 6, 4, 0, 0⟩, ⟨6, 0, 0, 0, 0, V (q)⟩]
def labs_entries_l (p : Nat) : List Int := [((p + 2 : Nat) : Int), ((p + 14 : Nat) : Int)] ++ labs_locks1 (p + 3)
theorem labs_entries_l_len (p : Nat) : (labs_entries_l p).length = 2 := by simp [labs_entries_l, labs_locks1_len]
theorem code_entries_l_len (t : TxC) (V : Nat → Int) (q : Nat) : (code_entries_l t V q).length = 14 := by simp [code_entries_l, code_locks1_len]
set_option maxHeartbeats 1000000 in
theorem at_entries_l (h : At V c0 p ls R) (hp : p + 14 ≤ 262144) : At V (c0.entries_l t) (p + 14) (ls ++ labs_entries_l p) (R ++ code_entries_l t V ls.length) := by
  obtain rfl := h.labs
  have eloop : c0.labs.length = c0.labs.length + 0 := by rfl
  have h1 := h.label
  have efin : (c0.label).labs.length = c0.labs.length + 1 := by simp [Cd.label]
  have h2 := h1.label
  have h3 := h2.put ⟨4, 0, 6, 7, 0, t.base + 2⟩ (by omega)
  have h4 := h3.put ⟨1, 0, 5, 0, 0, t.log⟩ (by omega)
  have h5 := h4.here (c0).labs.length
  have h6 := h5.zero 6 (c0.label).labs.length (by omega)
  have h7 := at_locks1 (t := t) h6 (by omega)
  have h8 := (h7.put ⟨1, 0, 4, 0, 0, 2⟩ (by omega)).put ⟨3, 1, 5, 4, 0, 0⟩ (by omega)
  have h9 := (h8.put ⟨1, 0, 4, 0, 0, 1⟩ (by omega)).put ⟨3, 2, 6, 4, 0, 0⟩ (by omega)
  have h10 := h9.jump (c0).labs.length (by omega)
  have h11 := h10.here (c0.label).labs.length
  refine h11.cast (by omega) ?_ ?_
  · simp [labs_entries_l, labs_locks1_len, Cd.label, emset_at, emset_at0] <;> omega
  · simp [code_entries_l, Cd.label, labs_locks1_len]
def code_entries_c (t : TxC) (V : Nat → Int) (q : Nat) : List OpD := [⟨4, 0, 6, 7, 0, t.base + 2⟩, ⟨1, 0, 5, 0, 0, t.log⟩, ⟨7, 0, 6, 0, 0, V (q + 1)⟩] ++ code_commit1 t V (q + 2) ++ [⟨1, 0, 4, 0, 0, 2⟩, ⟨3, 1, 5, 4, 0, 0⟩, ⟨1, 0, 4, 0, 0, 1⟩, ⟨3, 2, 6, 4, 0, 0⟩, ⟨6, 0, 0, 0, 0, V (q)⟩]
def labs_entries_c (p : Nat) : List Int := [((p + 2 : Nat) : Int), ((p + 11 : Nat) : Int)] ++ labs_commit1 (p + 3)
theorem labs_entries_c_len (p : Nat) : (labs_entries_c p).length = 2 := by simp [labs_entries_c, labs_commit1_len]
theorem code_entries_c_len (t : TxC) (V : Nat → Int) (q : Nat) : (code_entries_c t V q).length = 11 := by simp [code_entries_c, code_commit1_len]
set_option maxHeartbeats 1000000 in
theorem at_entries_c (h : At V c0 p ls R) (hp : p + 11 ≤ 262144) : At V (c0.entries_c t) (p + 11) (ls ++ labs_entries_c p) (R ++ code_entries_c t V ls.length) := by
  obtain rfl := h.labs
  have eloop : c0.labs.length = c0.labs.length + 0 := by rfl
  have h1 := h.label
  have efin : (c0.label).labs.length = c0.labs.length + 1 := by simp [Cd.label]
  have h2 := h1.label
  have h3 := h2.put ⟨4, 0, 6, 7, 0, t.base + 2⟩ (by omega)
  have h4 := h3.put ⟨1, 0, 5, 0, 0, t.log⟩ (by omega)
  have h5 := h4.here (c0).labs.length
  have h6 := h5.zero 6 (c0.label).labs.length (by omega)
  have h7 := at_commit1 (t := t) h6 (by omega)
  have h8 := (h7.put ⟨1, 0, 4, 0, 0, 2⟩ (by omega)).put ⟨3, 1, 5, 4, 0, 0⟩ (by omega)
  have h9 := (h8.put ⟨1, 0, 4, 0, 0, 1⟩ (by omega)).put ⟨3, 2, 6, 4, 0, 0⟩ (by omega)
  have h10 := h9.jump (c0).labs.length (by omega)
  have h11 := h10.here (c0.label).labs.length
  refine h11.cast (by omega) ?_ ?_
  · simp [labs_entries_c, labs_commit1_len, Cd.label, emset_at, emset_at0] <;> omega
  · simp [code_entries_c, Cd.label, labs_commit1_len]
def code_stripes_l (t : TxC) (V : Nat → Int) (q : Nat) (rel : Nat) : List OpD := [⟨1, 0, 6, 0, 0, 0⟩, ⟨2, 0, 4, 6, 0, 0⟩, ⟨1, 0, 3, 0, 0, 16⟩, ⟨3, 13, 4, 3, 0, 0⟩, ⟨7, 0, 4, 0, 0, V (q + 2)⟩, ⟨4, 0, 4, 7, 0, t.base + 7⟩, ⟨3, 10, 4, 6, 0, 0⟩, ⟨1, 0, 3, 0, 0, 1⟩, ⟨3, 6, 4, 3, 0, 0⟩, ⟨7, 0, 4, 0, 0, V (q + 1)⟩] ++ code_locks2 t V (q + 3) rel ++ [⟨1, 0, 3, 0, 0, 1⟩, ⟨3, 1, 6, 3, 0, 0⟩, ⟨6, 0, 0, 0, 0, V (q)⟩]
def labs_stripes_l (p : Nat) : List Int := [((p + 1 : Nat) : Int), ((p + 34 : Nat) : Int), ((p + 37 : Nat) : Int)] ++ labs_locks2 (p + 10)
theorem labs_stripes_l_len (p : Nat) : (labs_stripes_l p).length = 5 := by simp [labs_stripes_l, labs_locks2_len]
theorem code_stripes_l_len (t : TxC) (V : Nat → Int) (q : Nat) (rel : Nat) : (code_stripes_l t V q rel).length = 37 := by simp [code_stripes_l, code_locks2_len]
set_option maxHeartbeats 1000000 in
theorem at_stripes_l (h : At V c0 p ls R) (rel : Nat) (hp : p + 37 ≤ 262144) : At V (c0.stripes_l t rel) (p + 37) (ls ++ labs_stripes_l p) (R ++ code_stripes_l t V ls.length rel) := by
  obtain rfl := h.labs
  have eloop : c0.labs.length = c0.labs.length + 0 := by rfl
  have h1 := h.label
  have enext : (c0.label).labs.length = c0.labs.length + 1 := by simp [Cd.label]
  have h2 := h1.label
  have efin : (c0.label.label).labs.length = c0.labs.length + 2 := by simp [Cd.label]
  have h3 := h2.label
  have h4 := h3.put ⟨1, 0, 6, 0, 0, 0⟩ (by omega)
  have h5 := h4.here (c0).labs.length
  have h6 := h5.put ⟨2, 0, 4, 6, 0, 0⟩ (by omega)
  have h7 := (h6.put ⟨1, 0, 3, 0, 0, 16⟩ (by omega)).put ⟨3, 13, 4, 3, 0, 0⟩ (by omega)
  have h8 := h7.zero 4 (c0.label.label).labs.length (by omega)
  have h9 := h8.put ⟨4, 0, 4, 7, 0, t.base + 7⟩ (by omega)
  have h10 := h9.put ⟨3, 10, 4, 6, 0, 0⟩ (by omega)
  have h11 := (h10.put ⟨1, 0, 3, 0, 0, 1⟩ (by omega)).put ⟨3, 6, 4, 3, 0, 0⟩ (by omega)
  have h12 := h11.zero 4 (c0.label).labs.length (by omega)
  have h13 := at_locks2 (t := t) h12 rel (by omega)
  have h14 := h13.here (c0.label).labs.length
  have h15 := (h14.put ⟨1, 0, 3, 0, 0, 1⟩ (by omega)).put ⟨3, 1, 6, 3, 0, 0⟩ (by omega)
  have h16 := h15.jump (c0).labs.length (by omega)
  have h17 := h16.here (c0.label.label).labs.length
  refine h17.cast (by omega) ?_ ?_
  · simp [labs_stripes_l, labs_locks2_len, Cd.label, emset_at, emset_at0] <;> omega
  · simp [code_stripes_l, Cd.label, labs_locks2_len]
def code_stripes_v (t : TxC) (V : Nat → Int) (q : Nat) (rel : Nat) : List OpD := [⟨1, 0, 6, 0, 0, 0⟩, ⟨2, 0, 4, 6, 0, 0⟩, ⟨1, 0, 3, 0, 0, 16⟩, ⟨3, 13, 4, 3, 0, 0⟩, ⟨7, 0, 4, 0, 0, V (q + 2)⟩, ⟨4, 0, 4, 7, 0, t.base + 1⟩, ⟨3, 10, 4, 6, 0, 0⟩, ⟨1, 0, 3, 0, 0, 1⟩, ⟨3, 6, 4, 3, 0, 0⟩, ⟨7, 0, 4, 0, 0, V (q + 1)⟩] ++ code_valid1 t V (q + 3) rel ++ [⟨1, 0, 3, 0, 0, 1⟩, ⟨3, 1, 6, 3, 0, 0⟩, ⟨6, 0, 0, 0, 0, V (q)⟩]
def labs_stripes_v (p : Nat) : List Int := [((p + 1 : Nat) : Int), ((p + 32 : Nat) : Int), ((p + 35 : Nat) : Int)] ++ labs_valid1 (p + 10)
theorem labs_stripes_v_len (p : Nat) : (labs_stripes_v p).length = 6 := by simp [labs_stripes_v, labs_valid1_len]
theorem code_stripes_v_len (t : TxC) (V : Nat → Int) (q : Nat) (rel : Nat) : (code_stripes_v t V q rel).length = 35 := by simp [code_stripes_v, code_valid1_len]
set_option maxHeartbeats 1000000 in
theorem at_stripes_v (h : At V c0 p ls R) (rel : Nat) (hp : p + 35 ≤ 262144) : At V (c0.stripes_v t rel) (p + 35) (ls ++ labs_stripes_v p) (R ++ code_stripes_v t V ls.length rel) := by
  obtain rfl := h.labs
  have eloop : c0.labs.length = c0.labs.length + 0 := by rfl
  have h1 := h.label
  have enext : (c0.label).labs.length = c0.labs.length + 1 := by simp [Cd.label]
  have h2 := h1.label
  have efin : (c0.label.label).labs.length = c0.labs.length + 2 := by simp [Cd.label]
  have h3 := h2.label
  have h4 := h3.put ⟨1, 0, 6, 0, 0, 0⟩ (by omega)
  have h5 := h4.here (c0).labs.length
  have h6 := h5.put ⟨2, 0, 4, 6, 0, 0⟩ (by omega)
  have h7 := (h6.put ⟨1, 0, 3, 0, 0, 16⟩ (by omega)).put ⟨3, 13, 4, 3, 0, 0⟩ (by omega)
  have h8 := h7.zero 4 (c0.label.label).labs.length (by omega)
  have h9 := h8.put ⟨4, 0, 4, 7, 0, t.base + 1⟩ (by omega)
  have h10 := h9.put ⟨3, 10, 4, 6, 0, 0⟩ (by omega)
  have h11 := (h10.put ⟨1, 0, 3, 0, 0, 1⟩ (by omega)).put ⟨3, 6, 4, 3, 0, 0⟩ (by omega)
  have h12 := h11.zero 4 (c0.label).labs.length (by omega)
  have h13 := at_valid1 (t := t) h12 rel (by omega)
  have h14 := h13.here (c0.label).labs.length
  have h15 := (h14.put ⟨1, 0, 3, 0, 0, 1⟩ (by omega)).put ⟨3, 1, 6, 3, 0, 0⟩ (by omega)
  have h16 := h15.jump (c0).labs.length (by omega)
  have h17 := h16.here (c0.label.label).labs.length
  refine h17.cast (by omega) ?_ ?_
  · simp [labs_stripes_v, labs_valid1_len, Cd.label, emset_at, emset_at0] <;> omega
  · simp [code_stripes_v, Cd.label, labs_valid1_len]
def code_stripes_u (t : TxC) (V : Nat → Int) (q : Nat) : List OpD := [⟨1, 0, 6, 0, 0, 0⟩, ⟨2, 0, 4, 6, 0, 0⟩, ⟨1, 0, 3, 0, 0, 16⟩, ⟨3, 13, 4, 3, 0, 0⟩, ⟨7, 0, 4, 0, 0, V (q + 2)⟩, ⟨4, 0, 4, 7, 0, t.base + 6⟩, ⟨3, 10, 4, 6, 0, 0⟩, ⟨1, 0, 3, 0, 0, 1⟩, ⟨3, 6, 4, 3, 0, 0⟩, ⟨7, 0, 4, 0, 0, V (q + 1)⟩] ++ code_commit2 t V (q + 3) ++ [⟨1, 0, 3, 0, 0, 1⟩, ⟨3, 1, 6, 3, 0, 0⟩, ⟨6, 0, 0, 0, 0, V (q)⟩]
def labs_stripes_u (p : Nat) : List Int := [((p + 1 : Nat) : Int), ((p + 14 : Nat) : Int), ((p + 17 : Nat) : Int)] ++ labs_commit2 (p + 10)
theorem labs_stripes_u_len (p : Nat) : (labs_stripes_u p).length = 3 := by simp [labs_stripes_u, labs_commit2_len]
theorem code_stripes_u_len (t : TxC) (V : Nat → Int) (q : Nat) : (code_stripes_u t V q).length = 17 := by simp [code_stripes_u, code_commit2_len]
set_option maxHeartbeats 1000000 in
theorem at_stripes_u (h : At V c0 p ls R) (hp : p + 17 ≤ 262144) : At V (c0.stripes_u t) (p + 17) (ls ++ labs_stripes_u p) (R ++ code_stripes_u t V ls.length) := by
  obtain rfl := h.labs
  have eloop : c0.labs.length = c0.labs.length + 0 := by rfl
  have h1 := h.label
  have enext : (c0.label).labs.length = c0.labs.length + 1 := by simp [Cd.label]
  have h2 := h1.label
  have efin : (c0.label.label).labs.length = c0.labs.length + 2 := by simp [Cd.label]
  have h3 := h2.label
  have h4 := h3.put ⟨1, 0, 6, 0, 0, 0⟩ (by omega)
  have h5 := h4.here (c0).labs.length
  have h6 := h5.put ⟨2, 0, 4, 6, 0, 0⟩ (by omega)
  have h7 := (h6.put ⟨1, 0, 3, 0, 0, 16⟩ (by omega)).put ⟨3, 13, 4, 3, 0, 0⟩ (by omega)
  have h8 := h7.zero 4 (c0.label.label).labs.length (by omega)
  have h9 := h8.put ⟨4, 0, 4, 7, 0, t.base + 6⟩ (by omega)
  have h10 := h9.put ⟨3, 10, 4, 6, 0, 0⟩ (by omega)
  have h11 := (h10.put ⟨1, 0, 3, 0, 0, 1⟩ (by omega)).put ⟨3, 6, 4, 3, 0, 0⟩ (by omega)
  have h12 := h11.zero 4 (c0.label).labs.length (by omega)
  have h13 := at_commit2 (t := t) h12 (by omega)
  have h14 := h13.here (c0.label).labs.length
  have h15 := (h14.put ⟨1, 0, 3, 0, 0, 1⟩ (by omega)).put ⟨3, 1, 6, 3, 0, 0⟩ (by omega)
  have h16 := h15.jump (c0).labs.length (by omega)
  have h17 := h16.here (c0.label.label).labs.length
  refine h17.cast (by omega) ?_ ?_
  · simp [labs_stripes_u, labs_commit2_len, Cd.label, emset_at, emset_at0] <;> omega
  · simp [code_stripes_u, Cd.label, labs_commit2_len]
def code_stripes_r (t : TxC) (V : Nat → Int) (q : Nat) : List OpD := [⟨1, 0, 6, 0, 0, 0⟩, ⟨2, 0, 4, 6, 0, 0⟩, ⟨1, 0, 3, 0, 0, 16⟩, ⟨3, 13, 4, 3, 0, 0⟩, ⟨7, 0, 4, 0, 0, V (q + 2)⟩, ⟨4, 0, 4, 7, 0, t.base + 6⟩, ⟨3, 10, 4, 6, 0, 0⟩, ⟨1, 0, 3, 0, 0, 1⟩, ⟨3, 6, 4, 3, 0, 0⟩, ⟨7, 0, 4, 0, 0, V (q + 1)⟩] ++ code_commit3 t V (q + 3) ++ [⟨1, 0, 3, 0, 0, 1⟩, ⟨3, 1, 6, 3, 0, 0⟩, ⟨6, 0, 0, 0, 0, V (q)⟩]
def labs_stripes_r (p : Nat) : List Int := [((p + 1 : Nat) : Int), ((p + 18 : Nat) : Int), ((p + 21 : Nat) : Int)] ++ labs_commit3 (p + 10)
theorem labs_stripes_r_len (p : Nat) : (labs_stripes_r p).length = 3 := by simp [labs_stripes_r, labs_commit3_len]
theorem code_stripes_r_len (t : TxC) (V : Nat → Int) (q : Nat) : (code_stripes_r t V q).length = 21 := by simp [code_stripes_r, code_commit3_len]
set_option maxHeartbeats 1000000 in
theorem at_stripes_r (h : At V c0 p ls R) (hp : p + 21 ≤ 262144) : At V (c0.stripes_r t) (p + 21) (ls ++ labs_stripes_r p) (R ++ code_stripes_r t V ls.length) := by
  obtain rfl := h.labs
  have eloop : c0.labs.length = c0.labs.length + 0 := by rfl
  have h1 := h.label
  have enext : (c0.label).labs.length = c0.labs.length + 1 := by simp [Cd.label]
  have h2 := h1.label
  have efin : (c0.label.label).labs.length = c0.labs.length + 2 := by simp [Cd.label]
  have h3 := h2.label
  have h4 := h3.put ⟨1, 0, 6, 0, 0, 0⟩ (by omega)
  have h5 := h4.here (c0).labs.length
  have h6 := h5.put ⟨2, 0, 4, 6, 0, 0⟩ (by omega)
  have h7 := (h6.put ⟨1, 0, 3, 0, 0, 16⟩ (by omega)).put ⟨3, 13, 4, 3, 0, 0⟩ (by omega)
  have h8 := h7.zero 4 (c0.label.label).labs.length (by omega)
  have h9 := h8.put ⟨4, 0, 4, 7, 0, t.base + 6⟩ (by omega)
  have h10 := h9.put ⟨3, 10, 4, 6, 0, 0⟩ (by omega)
  have h11 := (h10.put ⟨1, 0, 3, 0, 0, 1⟩ (by omega)).put ⟨3, 6, 4, 3, 0, 0⟩ (by omega)
  have h12 := h11.zero 4 (c0.label).labs.length (by omega)
  have h13 := at_commit3 (t := t) h12 (by omega)
  have h14 := h13.here (c0.label).labs.length
  have h15 := (h14.put ⟨1, 0, 3, 0, 0, 1⟩ (by omega)).put ⟨3, 1, 6, 3, 0, 0⟩ (by omega)
  have h16 := h15.jump (c0).labs.length (by omega)
  have h17 := h16.here (c0.label.label).labs.length
  refine h17.cast (by omega) ?_ ?_
  · simp [labs_stripes_r, labs_commit3_len, Cd.label, emset_at, emset_at0] <;> omega
  · simp [code_stripes_r, Cd.label, labs_commit3_len]
def code_locks (t : TxC) (V : Nat → Int) (q : Nat) (rel : Nat) : List OpD := [⟨1, 0, 2, 0, 0, 0⟩] ++ code_entries_l t V (q) ++ [⟨5, 0, 7, 2, 0, t.base + 7⟩] ++ code_stripes_l t V (q + 2) rel
def labs_locks (p : Nat) : List Int := [] ++ labs_entries_l (p + 1) ++ labs_stripes_l (p + 16)
theorem labs_locks_len (p : Nat) : (labs_locks p).length = 7 := by simp [labs_locks, labs_entries_l_len, labs_stripes_l_len]
theorem code_locks_len (t : TxC) (V : Nat → Int) (q : Nat) (rel : Nat) : (code_locks t V q rel).length = 53 := by simp [code_locks, code_entries_l_len, code_stripes_l_len]
set_option maxHeartbeats 1000000 in
theorem at_locks (h : At V c0 p ls R) (rel : Nat) (hp : p + 53 ≤ 262144) : At V (c0.locks t rel) (p + 53) (ls ++ labs_locks p) (R ++ code_locks t V ls.length rel) := by
  obtain rfl := h.labs
  have h1 := h.put ⟨1, 0, 2, 0, 0, 0⟩ (by omega)
  have h2 := at_entries_l (t := t) h1 (by omega)
  have h3 := h2.put ⟨5, 0, 7, 2, 0, t.base + 7⟩ (by omega)
  have h4 := at_stripes_l (t := t) h3 rel (by omega)
  refine h4.cast (by omega) ?_ ?_
  · simp [labs_locks, labs_entries_l_len, labs_stripes_l_len, Cd.label, emset_at, emset_at0] <;> omega
  · simp [code_locks, Cd.label, labs_entries_l_len, labs_stripes_l_len]
def code_validate (t : TxC) (V : Nat → Int) (q : Nat) (rel : Nat) : List OpD := code_stripes_v t V (q) rel
def labs_validate (p : Nat) : List Int := [] ++ labs_stripes_v (p)
theorem labs_validate_len (p : Nat) : (labs_validate p).length = 6 := by simp [labs_validate, labs_stripes_v_len]
theorem code_validate_len (t : TxC) (V : Nat → Int) (q : Nat) (rel : Nat) : (code_validate t V q rel).length = 35 := by simp [code_validate, code_stripes_v_len]
set_option maxHeartbeats 1000000 in
theorem at_validate (h : At V c0 p ls R) (rel : Nat) (hp : p + 35 ≤ 262144) : At V (c0.validate t rel) (p + 35) (ls ++ labs_validate p) (R ++ code_validate t V ls.length rel) := by
  obtain rfl := h.labs
  have h1 := at_stripes_v (t := t) h rel (by omega)
  refine h1.cast (by omega) ?_ ?_
  · simp [labs_validate, labs_stripes_v_len, Cd.label, emset_at, emset_at0] <;> omega
  · simp [code_validate, Cd.label, labs_stripes_v_len]
def code_commit (t : TxC) (V : Nat → Int) (q : Nat) (abort : Nat) : List OpD := [⟨4, 0, 0, 7, 0, t.base + 2⟩, ⟨7, 0, 0, 0, 0, V (q + 1)⟩] ++ code_locks t V (q + 4) (q) ++ [⟨1, 0, 1, 0, 0, 1⟩, ⟨9, 0, 7, 1, 0, t.words + 1⟩, ⟨1, 0, 4, 0, 0, 1⟩, ⟨3, 1, 1, 4, 0, 0⟩, ⟨5, 0, 7, 1, 0, t.base + 7⟩, ⟨2, 0, 2, 1, 0, 0⟩, ⟨1, 0, 4, 0, 0, 2305843009213693952⟩, ⟨3, 13, 2, 4, 0, 0⟩] ++ code_unless t V (q + 11) 2 (q + 3) ++ [⟨13, 0, 0, 0, 0, 7⟩] ++ code_validate t V (q + 12) (q) ++ [⟨4, 0, 1, 7, 0, t.base + 7⟩, ⟨1, 0, 2, 0, 0, 1⟩, ⟨12, 0, 1, 2, 0, 7⟩] ++ code_entries_c t V (q + 18) ++ [⟨4, 0, 1, 7, 0, t.base + 7⟩, ⟨3, 1, 1, 1, 0, 0⟩] ++ code_stripes_u t V (q + 20) ++ [⟨6, 0, 0, 0, 0, V (q + 2)⟩] ++ code_stripes_r t V (q + 23) ++ [⟨6, 0, 0, 0, 0, V (abort)⟩, ⟨4, 0, 1, 7, 0, t.base + 0⟩, ⟨12, 0, 1, 7, 0, 7⟩] ++ code_tell t V (q + 26)
def labs_commit (p : Nat) : List Int := [((p + 135 : Nat) : Int), ((p + 157 : Nat) : Int), ((p + 159 : Nat) : Int), ((p + 66 : Nat) : Int)] ++ labs_locks (p + 2) ++ labs_unless (p + 63) ++ labs_validate (p + 66) ++ labs_entries_c (p + 104) ++ labs_stripes_u (p + 117) ++ labs_stripes_r (p + 135) ++ labs_tell (p + 159)
theorem labs_commit_len (p : Nat) : (labs_commit p).length = 28 := by simp [labs_commit, labs_entries_c_len, labs_locks_len, labs_stripes_r_len, labs_stripes_u_len, labs_tell_len, labs_unless_len, labs_validate_len]
theorem code_commit_len (t : TxC) (V : Nat → Int) (q : Nat) (abort : Nat) : (code_commit t V q abort).length = 169 := by simp [code_commit, code_entries_c_len, code_locks_len, code_stripes_r_len, code_stripes_u_len, code_tell_len, code_unless_len, code_validate_len]
set_option maxHeartbeats 1000000 in
theorem at_commit (h : At V c0 p ls R) (abort : Nat) (hp : p + 169 ≤ 262144) : At V (c0.commit t abort) (p + 169) (ls ++ labs_commit p) (R ++ code_commit t V ls.length abort) := by
  obtain rfl := h.labs
  have erel : c0.labs.length = c0.labs.length + 0 := by rfl
  have h1 := h.label
  have ero : (c0.label).labs.length = c0.labs.length + 1 := by simp [Cd.label]
  have h2 := h1.label
  have etl : (c0.label.label).labs.length = c0.labs.length + 2 := by simp [Cd.label]
  have h3 := h2.label
  have efine : (c0.label.label.label).labs.length = c0.labs.length + 3 := by simp [Cd.label]
  have h4 := h3.label
  have h5 := h4.put ⟨4, 0, 0, 7, 0, t.base + 2⟩ (by omega)
  have h6 := h5.zero 0 (c0.label).labs.length (by omega)
  have h7 := at_locks (t := t) h6 ((c0).labs.length) (by omega)
  have h8 := h7.put ⟨1, 0, 1, 0, 0, 1⟩ (by omega)
  have h9 := h8.put ⟨9, 0, 7, 1, 0, t.words + 1⟩ (by omega)
  have h10 := (h9.put ⟨1, 0, 4, 0, 0, 1⟩ (by omega)).put ⟨3, 1, 1, 4, 0, 0⟩ (by omega)
  have h11 := h10.put ⟨5, 0, 7, 1, 0, t.base + 7⟩ (by omega)
  have h12 := h11.put ⟨2, 0, 2, 1, 0, 0⟩ (by omega)
  have h13 := (h12.put ⟨1, 0, 4, 0, 0, 2305843009213693952⟩ (by omega)).put ⟨3, 13, 2, 4, 0, 0⟩ (by omega)
  have h14 := at_unless (t := t) h13 2 ((c0.label.label.label).labs.length) (by omega)
  have h15 := h14.put ⟨13, 0, 0, 0, 0, 7⟩ (by omega)
  have h16 := h15.here (c0.label.label.label).labs.length
  have h17 := at_validate (t := t) h16 ((c0).labs.length) (by omega)
  have h18 := h17.put ⟨4, 0, 1, 7, 0, t.base + 7⟩ (by omega)
  have h19 := h18.put ⟨1, 0, 2, 0, 0, 1⟩ (by omega)
  have h20 := h19.put ⟨12, 0, 1, 2, 0, 7⟩ (by omega)
  have h21 := at_entries_c (t := t) h20 (by omega)
  have h22 := h21.put ⟨4, 0, 1, 7, 0, t.base + 7⟩ (by omega)
  have h23 := h22.put ⟨3, 1, 1, 1, 0, 0⟩ (by omega)
  have h24 := at_stripes_u (t := t) h23 (by omega)
  have h25 := h24.jump (c0.label.label).labs.length (by omega)
  have h26 := h25.here (c0).labs.length
  have h27 := at_stripes_r (t := t) h26 (by omega)
  have h28 := h27.jump abort (by omega)
  have h29 := h28.here (c0.label).labs.length
  have h30 := h29.put ⟨4, 0, 1, 7, 0, t.base + 0⟩ (by omega)
  have h31 := h30.put ⟨12, 0, 1, 7, 0, 7⟩ (by omega)
  have h32 := h31.here (c0.label.label).labs.length
  have h33 := at_tell (t := t) h32 (by omega)
  refine h33.cast (by omega) ?_ ?_
  · simp [labs_commit, labs_entries_c_len, labs_locks_len, labs_stripes_r_len, labs_stripes_u_len, labs_tell_len, labs_unless_len, labs_validate_len, Cd.label, emset_at, emset_at0] <;> omega
  · simp [code_commit, Cd.label, labs_entries_c_len, labs_locks_len, labs_stripes_r_len, labs_stripes_u_len, labs_tell_len, labs_unless_len, labs_validate_len]
def code_begin_ (t : TxC) (V : Nat → Int) (q : Nat) : List OpD := [⟨4, 0, 1, 7, 0, t.base + 4⟩, ⟨5, 0, 7, 1, 0, t.base + 5⟩, ⟨5, 0, 7, 7, 0, t.base + 1⟩, ⟨5, 0, 7, 7, 0, t.base + 2⟩, ⟨5, 0, 7, 7, 0, t.base + 3⟩, ⟨5, 0, 7, 7, 0, t.base + 6⟩, ⟨15, 0, 0, 7, 0, t.words + 1⟩, ⟨5, 0, 7, 0, 0, t.base + 0⟩]
def labs_begin_ (p : Nat) : List Int := []
theorem labs_begin__len (p : Nat) : (labs_begin_ p).length = 0 := by simp [labs_begin_]
theorem code_begin__len (t : TxC) (V : Nat → Int) (q : Nat) : (code_begin_ t V q).length = 8 := by simp [code_begin_]
set_option maxHeartbeats 1000000 in
theorem at_begin_ (h : At V c0 p ls R) (hp : p + 8 ≤ 262144) : At V (c0.begin_ t) (p + 8) (ls ++ labs_begin_ p) (R ++ code_begin_ t V ls.length) := by
  obtain rfl := h.labs
  have h1 := h.put ⟨4, 0, 1, 7, 0, t.base + 4⟩ (by omega)
  have h2 := h1.put ⟨5, 0, 7, 1, 0, t.base + 5⟩ (by omega)
  have h3 := h2.put ⟨5, 0, 7, 7, 0, t.base + 1⟩ (by omega)
  have h4 := h3.put ⟨5, 0, 7, 7, 0, t.base + 2⟩ (by omega)
  have h5 := h4.put ⟨5, 0, 7, 7, 0, t.base + 3⟩ (by omega)
  have h6 := h5.put ⟨5, 0, 7, 7, 0, t.base + 6⟩ (by omega)
  have h7 := h6.put ⟨15, 0, 0, 7, 0, t.words + 1⟩ (by omega)
  have h8 := h7.put ⟨5, 0, 7, 0, 0, t.base + 0⟩ (by omega)
  refine h8.cast (by omega) ?_ ?_
  · simp [labs_begin_]
  · simp [code_begin_, Cd.label]
def code_once_r (t : TxC) (V : Nat → Int) (q : Nat) (oth : Int) (oat : Int) (ov : Int) (abort : Nat) : List OpD := [⟨1, 0, 1, 0, 0, oat⟩] ++ code_read t V (q) abort ++ [⟨4, 0, 1, 7, 0, t.sum⟩, ⟨3, 1, 1, 2, 0, 0⟩, ⟨5, 0, 7, 1, 0, t.sum⟩]
def labs_once_r (p : Nat) : List Int := [] ++ labs_read (p + 1)
theorem labs_once_r_len (p : Nat) : (labs_once_r p).length = 7 := by simp [labs_once_r, labs_read_len]
theorem code_once_r_len (t : TxC) (V : Nat → Int) (q : Nat) (oth : Int) (oat : Int) (ov : Int) (abort : Nat) : (code_once_r t V q oth oat ov abort).length = 48 := by simp [code_once_r, code_read_len]
set_option maxHeartbeats 1000000 in
theorem at_once_r (h : At V c0 p ls R) (oth : Int) (oat : Int) (ov : Int) (abort : Nat) (hp : p + 48 ≤ 262144) : At V (c0.once_r t oth oat ov abort) (p + 48) (ls ++ labs_once_r p) (R ++ code_once_r t V ls.length oth oat ov abort) := by
  obtain rfl := h.labs
  have h1 := h.put ⟨1, 0, 1, 0, 0, oat⟩ (by omega)
  have h2 := at_read (t := t) h1 abort (by omega)
  have h3 := h2.put ⟨4, 0, 1, 7, 0, t.sum⟩ (by omega)
  have h4 := h3.put ⟨3, 1, 1, 2, 0, 0⟩ (by omega)
  have h5 := h4.put ⟨5, 0, 7, 1, 0, t.sum⟩ (by omega)
  refine h5.cast (by omega) ?_ ?_
  · simp [labs_once_r, labs_read_len, Cd.label, emset_at, emset_at0] <;> omega
  · simp [code_once_r, Cd.label, labs_read_len]
def code_once_w (t : TxC) (V : Nat → Int) (q : Nat) (oth : Int) (oat : Int) (ov : Int) (abort : Nat) : List OpD := [⟨1, 0, 1, 0, 0, oat⟩, ⟨4, 0, 2, 7, 0, t.sum⟩, ⟨1, 0, 3, 0, 0, ov⟩, ⟨3, 1, 2, 3, 0, 0⟩] ++ code_write t V (q)
def labs_once_w (p : Nat) : List Int := [] ++ labs_write (p + 4)
theorem labs_once_w_len (p : Nat) : (labs_once_w p).length = 6 := by simp [labs_once_w, labs_write_len]
theorem code_once_w_len (t : TxC) (V : Nat → Int) (q : Nat) (oth : Int) (oat : Int) (ov : Int) (abort : Nat) : (code_once_w t V q oth oat ov abort).length = 33 := by simp [code_once_w, code_write_len]
set_option maxHeartbeats 1000000 in
theorem at_once_w (h : At V c0 p ls R) (oth : Int) (oat : Int) (ov : Int) (abort : Nat) (hp : p + 33 ≤ 262144) : At V (c0.once_w t oth oat ov abort) (p + 33) (ls ++ labs_once_w p) (R ++ code_once_w t V ls.length oth oat ov abort) := by
  obtain rfl := h.labs
  have h1 := h.put ⟨1, 0, 1, 0, 0, oat⟩ (by omega)
  have h2 := h1.put ⟨4, 0, 2, 7, 0, t.sum⟩ (by omega)
  have h3 := (h2.put ⟨1, 0, 3, 0, 0, ov⟩ (by omega)).put ⟨3, 1, 2, 3, 0, 0⟩ (by omega)
  have h4 := at_write (t := t) h3 (by omega)
  refine h4.cast (by omega) ?_ ?_
  · simp [labs_once_w, labs_write_len, Cd.label, emset_at, emset_at0] <;> omega
  · simp [code_once_w, Cd.label, labs_write_len]
end

section
variable {V : Nat → Int} {c c0 : Cd} {p q : Nat} {ls : List Int} {R : List OpD} {t : TxC}
/-- V tells these places from q on -/
def Vseg (V : Nat → Int) (q : Nat) (L : List Int) : Prop := ∀ (i : Nat) v, L[i]? = some v → V (q + i) = v
theorem Vseg.left {L1 L2 : List Int} (h : Vseg V q (L1 ++ L2)) : Vseg V q L1 := fun i v hv => h i v (by rw [List.getElem?_append_left (List.getElem?_eq_some_iff.1 hv).1]; exact hv)
theorem Vseg.right {L1 L2 : List Int} (h : Vseg V q (L1 ++ L2)) {n : Nat} (hn : L1.length = n) : Vseg V (q + n) L2 := fun i v hv => by
  have := h (n + i) v (by rw [List.getElem?_append_right (by omega), hn, Nat.add_sub_cancel_left]; exact hv)
  rwa [← Nat.add_assoc] at this
theorem Vseg.at0 {L : List Int} {v : Int} (h : Vseg V q (v :: L)) : V q = v := h 0 v rfl
theorem Vseg.at1 {L : List Int} {u v : Int} (h : Vseg V q (u :: v :: L)) : V (q + 1) = v := h 1 v rfl
theorem Vseg.at2 {L : List Int} {u v x : Int} (h : Vseg V q (u :: v :: x :: L)) : V (q + 2) = x := h 2 x rfl
theorem Vseg.at3 {L : List Int} {u v x y : Int} (h : Vseg V q (u :: v :: x :: y :: L)) : V (q + 3) = y := h 3 y rfl

def xcode_search (t : TxC) (p : Nat) (found : Int) : List OpD := [⟨4, 0, 3, 7, 0, t.base + 2⟩, ⟨7, 0, 3, 0, 0, ((p + 12 : Nat) : Int)⟩, ⟨1, 0, 4, 0, 0, 1⟩, ⟨3, 2, 3, 4, 0, 0⟩, ⟨2, 0, 5, 3, 0, 0⟩, ⟨3, 1, 5, 5, 0, 0⟩, ⟨1, 0, 4, 0, 0, t.log⟩, ⟨3, 1, 5, 4, 0, 0⟩, ⟨4, 0, 6, 5, 0, 0⟩, ⟨3, 2, 6, 1, 0, 0⟩, ⟨7, 0, 6, 0, 0, found⟩, ⟨6, 0, 0, 0, 0, ((p + 1 : Nat) : Int)⟩]
theorem xcode_search_len (t : TxC) (p : Nat) (found : Int) : (xcode_search t p found).length = 12 := by simp [xcode_search]
theorem x_search (found : Nat) (h : Vseg V q (labs_search p)) : code_search t V q found = xcode_search t p (V found) := by
  unfold labs_search at h
  have e0 := h.at0
  have e1 := h.at1
  unfold code_search xcode_search
  simp only [Nat.add_zero, e0, e1]
def xcode_unless (t : TxC) (p : Nat) (r : Int) (l : Int) : List OpD := [⟨7, 0, r, 0, 0, ((p + 2 : Nat) : Int)⟩, ⟨6, 0, 0, 0, 0, l⟩]
theorem xcode_unless_len (t : TxC) (p : Nat) (r : Int) (l : Int) : (xcode_unless t p r l).length = 2 := by simp [xcode_unless]
theorem x_unless (r : Int) (l : Nat) (h : Vseg V q (labs_unless p)) : code_unless t V q r l = xcode_unless t p r (V l) := by
  unfold labs_unless at h
  have e0 := h.at0
  unfold code_unless xcode_unless
  simp only [Nat.add_zero, e0]
def xcode_lock (t : TxC) (p : Nat) : List OpD := [⟨2, 0, 5, 6, 0, 0⟩, ⟨1, 0, 4, 0, 0, (t.words + 2)⟩, ⟨3, 1, 5, 4, 0, 0⟩]
theorem xcode_lock_len (t : TxC) (p : Nat) : (xcode_lock t p).length = 3 := by simp [xcode_lock]
theorem x_lock (h : Vseg V q (labs_lock p)) : code_lock t V q = xcode_lock t p := by
  unfold code_lock xcode_lock
  rfl
def xcode_old (t : TxC) (p : Nat) : List OpD := [⟨2, 0, 5, 6, 0, 0⟩, ⟨1, 0, 4, 0, 0, (t.base + 8)⟩, ⟨3, 1, 5, 4, 0, 0⟩]
theorem xcode_old_len (t : TxC) (p : Nat) : (xcode_old t p).length = 3 := by simp [xcode_old]
theorem x_old (h : Vseg V q (labs_old p)) : code_old t V q = xcode_old t p := by
  unfold code_old xcode_old
  rfl
def xcode_start (t : TxC) (p : Nat) : List OpD := [⟨1, 0, 0, 0, 0, t.arena⟩, ⟨5, 0, 7, 0, 0, t.base + 4⟩]
theorem xcode_start_len (t : TxC) (p : Nat) : (xcode_start t p).length = 2 := by simp [xcode_start]
theorem x_start (h : Vseg V q (labs_start p)) : code_start t V q = xcode_start t p := by
  unfold code_start xcode_start
  rfl
def xcode_abort (t : TxC) (p : Nat) : List OpD := [⟨12, 0, 7, 7, 0, 8⟩, ⟨4, 0, 1, 7, 0, t.base + 5⟩, ⟨5, 0, 7, 1, 0, t.base + 4⟩]
theorem xcode_abort_len (t : TxC) (p : Nat) : (xcode_abort t p).length = 3 := by simp [xcode_abort]
theorem x_abort (h : Vseg V q (labs_abort p)) : code_abort t V q = xcode_abort t p := by
  unfold code_abort xcode_abort
  rfl
def xcode_tell (t : TxC) (p : Nat) : List OpD := [⟨1, 0, 1, 0, 0, t.prints⟩, ⟨4, 0, 2, 7, 0, t.base + 3⟩, ⟨7, 0, 2, 0, 0, ((p + 10 : Nat) : Int)⟩, ⟨4, 0, 3, 1, 0, 0⟩, ⟨11, 0, 3, 0, 0, 0⟩, ⟨1, 0, 4, 0, 0, 1⟩, ⟨3, 1, 1, 4, 0, 0⟩, ⟨1, 0, 4, 0, 0, 1⟩, ⟨3, 2, 2, 4, 0, 0⟩, ⟨6, 0, 0, 0, 0, ((p + 2 : Nat) : Int)⟩]
theorem xcode_tell_len (t : TxC) (p : Nat) : (xcode_tell t p).length = 10 := by simp [xcode_tell]
theorem x_tell (h : Vseg V q (labs_tell p)) : code_tell t V q = xcode_tell t p := by
  unfold labs_tell at h
  have e0 := h.at0
  have e1 := h.at1
  unfold code_tell xcode_tell
  simp only [Nat.add_zero, e0, e1]
def xcode_read (t : TxC) (p : Nat) (abort : Int) : List OpD := xcode_search t (p) ((p + 42 : Nat) : Int) ++ [⟨2, 0, 5, 1, 0, 0⟩, ⟨1, 0, 4, 0, 0, 15⟩, ⟨3, 6, 5, 4, 0, 0⟩, ⟨2, 0, 0, 5, 0, 0⟩, ⟨1, 0, 4, 0, 0, (t.words + 2)⟩, ⟨3, 1, 5, 4, 0, 0⟩, ⟨4, 0, 3, 5, 0, 0⟩, ⟨2, 0, 6, 3, 0, 0⟩, ⟨1, 0, 4, 0, 0, 1⟩, ⟨3, 6, 6, 4, 0, 0⟩] ++ xcode_unless t (p + 22) 6 abort ++ [⟨2, 0, 6, 3, 0, 0⟩, ⟨1, 0, 4, 0, 0, 1⟩, ⟨3, 10, 6, 4, 0, 0⟩, ⟨4, 0, 4, 7, 0, t.base + 0⟩, ⟨3, 13, 4, 6, 0, 0⟩] ++ xcode_unless t (p + 29) 4 abort ++ [⟨4, 0, 2, 1, 0, 0⟩, ⟨4, 0, 4, 5, 0, 0⟩, ⟨3, 2, 4, 3, 0, 0⟩] ++ xcode_unless t (p + 34) 4 abort ++ [⟨1, 0, 4, 0, 0, 1⟩, ⟨3, 9, 4, 0, 0, 0⟩, ⟨4, 0, 6, 7, 0, t.base + 1⟩, ⟨3, 7, 6, 4, 0, 0⟩, ⟨5, 0, 7, 6, 0, t.base + 1⟩, ⟨6, 0, 0, 0, 0, ((p + 43 : Nat) : Int)⟩, ⟨4, 0, 2, 5, 0, 1⟩, ⟨12, 0, 1, 2, 0, 2⟩]
theorem xcode_read_len (t : TxC) (p : Nat) (abort : Int) : (xcode_read t p abort).length = 44 := by simp [xcode_read, xcode_search_len, xcode_unless_len]
theorem x_read (abort : Nat) (h : Vseg V q (labs_read p)) : code_read t V q abort = xcode_read t p (V abort) := by
  unfold labs_read at h
  have s3 := Vseg.right h (n := 6) (by simp [labs_search_len, labs_unless_len, labs_unless_len])
  have g3 := Vseg.left h
  have s2 := Vseg.right g3 (n := 5) (by simp [labs_search_len, labs_unless_len])
  have g2 := Vseg.left g3
  have s1 := Vseg.right g2 (n := 4) (by simp [labs_search_len])
  have g1 := Vseg.left g2
  have s0 := Vseg.right g1 (n := 2) (by simp)
  have g0 := Vseg.left g1
  have e0 := g0.at0
  have e1 := g0.at1
  unfold code_read xcode_read
  have f0 := x_search (t := t) q s0
  have f1 := x_unless (t := t) 6 abort s1
  have f2 := x_unless (t := t) 4 abort s2
  have f3 := x_unless (t := t) 4 abort s3
  simp only [Nat.add_zero, f0, f1, f2, f3, e0, e1]
def xcode_write (t : TxC) (p : Nat) : List OpD := xcode_search t (p) ((p + 27 : Nat) : Int) ++ [⟨4, 0, 3, 7, 0, t.base + 2⟩, ⟨2, 0, 4, 3, 0, 0⟩, ⟨1, 0, 6, 0, 0, 64⟩, ⟨3, 13, 4, 6, 0, 0⟩] ++ xcode_unless t (p + 16) 4 ((p + 19 : Nat) : Int) ++ [⟨13, 0, 0, 0, 0, 6⟩, ⟨2, 0, 5, 3, 0, 0⟩, ⟨3, 1, 5, 5, 0, 0⟩, ⟨1, 0, 4, 0, 0, t.log⟩, ⟨3, 1, 5, 4, 0, 0⟩, ⟨5, 0, 5, 1, 0, 0⟩, ⟨1, 0, 4, 0, 0, 1⟩, ⟨3, 1, 3, 4, 0, 0⟩, ⟨5, 0, 7, 3, 0, t.base + 2⟩, ⟨5, 0, 5, 2, 0, 1⟩, ⟨12, 0, 1, 2, 0, 3⟩]
theorem xcode_write_len (t : TxC) (p : Nat) : (xcode_write t p).length = 29 := by simp [xcode_write, xcode_search_len, xcode_unless_len]
theorem x_write (h : Vseg V q (labs_write p)) : code_write t V q = xcode_write t p := by
  unfold labs_write at h
  have s1 := Vseg.right h (n := 5) (by simp [labs_search_len])
  have g1 := Vseg.left h
  have s0 := Vseg.right g1 (n := 3) (by simp)
  have g0 := Vseg.left g1
  have e0 := g0.at0
  have e1 := g0.at1
  have e2 := g0.at2
  unfold code_write xcode_write
  have f0 := x_search (t := t) q s0
  have f1 := x_unless (t := t) 4 (q + 2) s1
  simp only [Nat.add_zero, f0, f1, e0, e1, e2]
def xcode_locks1 (t : TxC) (p : Nat) : List OpD := [⟨4, 0, 3, 5, 0, 0⟩, ⟨1, 0, 4, 0, 0, 15⟩, ⟨3, 6, 3, 4, 0, 0⟩, ⟨1, 0, 4, 0, 0, 1⟩, ⟨3, 9, 4, 3, 0, 0⟩, ⟨3, 7, 2, 4, 0, 0⟩]
theorem xcode_locks1_len (t : TxC) (p : Nat) : (xcode_locks1 t p).length = 6 := by simp [xcode_locks1]
theorem x_locks1 (h : Vseg V q (labs_locks1 p)) : code_locks1 t V q = xcode_locks1 t p := by
  unfold code_locks1 xcode_locks1
  rfl
def xcode_commit1 (t : TxC) (p : Nat) : List OpD := [⟨4, 0, 2, 5, 0, 0⟩, ⟨4, 0, 3, 5, 0, 1⟩, ⟨5, 0, 2, 3, 0, 0⟩]
theorem xcode_commit1_len (t : TxC) (p : Nat) : (xcode_commit1 t p).length = 3 := by simp [xcode_commit1]
theorem x_commit1 (h : Vseg V q (labs_commit1 p)) : code_commit1 t V q = xcode_commit1 t p := by
  unfold code_commit1 xcode_commit1
  rfl
def xcode_commit2 (t : TxC) (p : Nat) : List OpD := xcode_lock t (p) ++ [⟨5, 0, 5, 1, 0, 0⟩]
theorem xcode_commit2_len (t : TxC) (p : Nat) : (xcode_commit2 t p).length = 4 := by simp [xcode_commit2, xcode_lock_len]
theorem x_commit2 (h : Vseg V q (labs_commit2 p)) : code_commit2 t V q = xcode_commit2 t p := by
  unfold labs_commit2 at h
  have s0 := Vseg.right h (n := 0) (by simp)
  rw [Nat.add_zero] at s0
  have g0 := Vseg.left h
  unfold code_commit2 xcode_commit2
  have f0 := x_lock (t := t) s0
  simp only [Nat.add_zero, f0]
def xcode_commit3 (t : TxC) (p : Nat) : List OpD := xcode_old t (p) ++ [⟨4, 0, 2, 5, 0, 0⟩] ++ xcode_lock t (p + 4) ++ [⟨5, 0, 5, 2, 0, 0⟩]
theorem xcode_commit3_len (t : TxC) (p : Nat) : (xcode_commit3 t p).length = 8 := by simp [xcode_commit3, xcode_lock_len, xcode_old_len]
theorem x_commit3 (h : Vseg V q (labs_commit3 p)) : code_commit3 t V q = xcode_commit3 t p := by
  unfold labs_commit3 at h
  have s1 := Vseg.right h (n := 0) (by simp [labs_old_len])
  rw [Nat.add_zero] at s1
  have g1 := Vseg.left h
  have s0 := Vseg.right g1 (n := 0) (by simp)
  rw [Nat.add_zero] at s0
  have g0 := Vseg.left g1
  unfold code_commit3 xcode_commit3
  have f0 := x_old (t := t) s0
  have f1 := x_lock (t := t) s1
  simp only [Nat.add_zero, f0, f1]
def xcode_locks2 (t : TxC) (p : Nat) (rel : Int) : List OpD := xcode_lock t (p) ++ [⟨4, 0, 3, 5, 0, 0⟩, ⟨2, 0, 4, 3, 0, 0⟩, ⟨1, 0, 2, 0, 0, 1⟩, ⟨3, 6, 4, 2, 0, 0⟩] ++ xcode_unless t (p + 7) 4 rel ++ [⟨2, 0, 4, 3, 0, 0⟩, ⟨1, 0, 2, 0, 0, (2 * t.th + 1)⟩, ⟨8, 0, 5, 4, 2, 0⟩, ⟨3, 2, 4, 3, 0, 0⟩] ++ xcode_unless t (p + 13) 4 rel ++ xcode_old t (p + 15) ++ [⟨5, 0, 5, 3, 0, 0⟩, ⟨1, 0, 4, 0, 0, 1⟩, ⟨3, 9, 4, 6, 0, 0⟩, ⟨4, 0, 3, 7, 0, t.base + 6⟩, ⟨3, 7, 3, 4, 0, 0⟩, ⟨5, 0, 7, 3, 0, t.base + 6⟩]
theorem xcode_locks2_len (t : TxC) (p : Nat) (rel : Int) : (xcode_locks2 t p rel).length = 24 := by simp [xcode_locks2, xcode_lock_len, xcode_old_len, xcode_unless_len]
theorem x_locks2 (rel : Nat) (h : Vseg V q (labs_locks2 p)) : code_locks2 t V q rel = xcode_locks2 t p (V rel) := by
  unfold labs_locks2 at h
  have s3 := Vseg.right h (n := 2) (by simp [labs_lock_len, labs_unless_len, labs_unless_len])
  have g3 := Vseg.left h
  have s2 := Vseg.right g3 (n := 1) (by simp [labs_lock_len, labs_unless_len])
  have g2 := Vseg.left g3
  have s1 := Vseg.right g2 (n := 0) (by simp [labs_lock_len])
  rw [Nat.add_zero] at s1
  have g1 := Vseg.left g2
  have s0 := Vseg.right g1 (n := 0) (by simp)
  rw [Nat.add_zero] at s0
  have g0 := Vseg.left g1
  unfold code_locks2 xcode_locks2
  have f0 := x_lock (t := t) s0
  have f1 := x_unless (t := t) 4 rel s1
  have f2 := x_unless (t := t) 4 rel s2
  have f3 := x_old (t := t) s3
  simp only [Nat.add_zero, f0, f1, f2, f3]
def xcode_valid1 (t : TxC) (p : Nat) (rel : Int) : List OpD := xcode_lock t (p) ++ [⟨4, 0, 2, 5, 0, 0⟩, ⟨2, 0, 4, 2, 0, 0⟩, ⟨1, 0, 3, 0, 0, 1⟩, ⟨3, 6, 4, 3, 0, 0⟩, ⟨7, 0, 4, 0, 0, ((p + 16 : Nat) : Int)⟩, ⟨1, 0, 3, 0, 0, (2 * t.th + 1)⟩, ⟨3, 2, 2, 3, 0, 0⟩] ++ xcode_unless t (p + 10) 2 rel ++ xcode_old t (p + 12) ++ [⟨4, 0, 2, 5, 0, 0⟩, ⟨1, 0, 3, 0, 0, 1⟩, ⟨3, 10, 2, 3, 0, 0⟩, ⟨4, 0, 4, 7, 0, t.base + 0⟩, ⟨3, 13, 4, 2, 0, 0⟩] ++ xcode_unless t (p + 20) 4 rel
theorem xcode_valid1_len (t : TxC) (p : Nat) (rel : Int) : (xcode_valid1 t p rel).length = 22 := by simp [xcode_valid1, xcode_lock_len, xcode_old_len, xcode_unless_len]
theorem x_valid1 (rel : Nat) (h : Vseg V q (labs_valid1 p)) : code_valid1 t V q rel = xcode_valid1 t p (V rel) := by
  unfold labs_valid1 at h
  have s3 := Vseg.right h (n := 2) (by simp [labs_lock_len, labs_unless_len, labs_old_len])
  have g3 := Vseg.left h
  have s2 := Vseg.right g3 (n := 2) (by simp [labs_lock_len, labs_unless_len])
  have g2 := Vseg.left g3
  have s1 := Vseg.right g2 (n := 1) (by simp [labs_lock_len])
  have g1 := Vseg.left g2
  have s0 := Vseg.right g1 (n := 1) (by simp)
  have g0 := Vseg.left g1
  have e0 := g0.at0
  unfold code_valid1 xcode_valid1
  have f0 := x_lock (t := t) s0
  have f1 := x_unless (t := t) 2 rel s1
  have f2 := x_old (t := t) s2
  have f3 := x_unless (t := t) 4 rel s3
  simp only [Nat.add_zero, f0, f1, f2, f3, e0]
def xcode_entries_l (t : TxC) (p : Nat) : List OpD := [⟨4, 0, 6, 7, 0, t.base + 2⟩, ⟨1, 0, 5, 0, 0, t.log⟩, ⟨7, 0, 6, 0, 0, ((p + 14 : Nat) : Int)⟩] ++ xcode_locks1 t (p + 3) ++ [⟨1, 0, 4, 0, 0, 2⟩, ⟨3, 1, 5, 4, 0, 0⟩, ⟨1, 0, 4, 0, 0, 1⟩, ⟨3, 2, 6, 4, 0, 0⟩, ⟨6, 0, 0, 0, 0, ((p + 2 : Nat) : Int)⟩]
theorem xcode_entries_l_len (t : TxC) (p : Nat) : (xcode_entries_l t p).length = 14 := by simp [xcode_entries_l, xcode_locks1_len]
theorem x_entries_l (h : Vseg V q (labs_entries_l p)) : code_entries_l t V q = xcode_entries_l t p := by
  unfold labs_entries_l at h
  have s0 := Vseg.right h (n := 2) (by simp)
  have g0 := Vseg.left h
  have e0 := g0.at0
  have e1 := g0.at1
  unfold code_entries_l xcode_entries_l
  have f0 := x_locks1 (t := t) s0
  simp only [Nat.add_zero, f0, e0, e1]
def xcode_entries_c (t : TxC) (p : Nat) : List OpD := [⟨4, 0, 6, 7, 0, t.base + 2⟩, ⟨1, 0, 5, 0, 0, t.log⟩, ⟨7, 0, 6, 0, 0, ((p + 11 : Nat) : Int)⟩] ++ xcode_commit1 t (p + 3) ++ [⟨1, 0, 4, 0, 0, 2⟩, ⟨3, 1, 5, 4, 0, 0⟩, ⟨1, 0, 4, 0, 0, 1⟩, ⟨3, 2, 6, 4, 0, 0⟩, ⟨6, 0, 0, 0, 0, ((p + 2 : Nat) : Int)⟩]
theorem xcode_entries_c_len (t : TxC) (p : Nat) : (xcode_entries_c t p).length = 11 := by simp [xcode_entries_c, xcode_commit1_len]
theorem x_entries_c (h : Vseg V q (labs_entries_c p)) : code_entries_c t V q = xcode_entries_c t p := by
  unfold labs_entries_c at h
  have s0 := Vseg.right h (n := 2) (by simp)
  have g0 := Vseg.left h
  have e0 := g0.at0
  have e1 := g0.at1
  unfold code_entries_c xcode_entries_c
  have f0 := x_commit1 (t := t) s0
  simp only [Nat.add_zero, f0, e0, e1]
def xcode_stripes_l (t : TxC) (p : Nat) (rel : Int) : List OpD := [⟨1, 0, 6, 0, 0, 0⟩, ⟨2, 0, 4, 6, 0, 0⟩, ⟨1, 0, 3, 0, 0, 16⟩, ⟨3, 13, 4, 3, 0, 0⟩, ⟨7, 0, 4, 0, 0, ((p + 37 : Nat) : Int)⟩, ⟨4, 0, 4, 7, 0, t.base + 7⟩, ⟨3, 10, 4, 6, 0, 0⟩, ⟨1, 0, 3, 0, 0, 1⟩, ⟨3, 6, 4, 3, 0, 0⟩, ⟨7, 0, 4, 0, 0, ((p + 34 : Nat) : Int)⟩] ++ xcode_locks2 t (p + 10) rel ++ [⟨1, 0, 3, 0, 0, 1⟩, ⟨3, 1, 6, 3, 0, 0⟩, ⟨6, 0, 0, 0, 0, ((p + 1 : Nat) : Int)⟩]
theorem xcode_stripes_l_len (t : TxC) (p : Nat) (rel : Int) : (xcode_stripes_l t p rel).length = 37 := by simp [xcode_stripes_l, xcode_locks2_len]
theorem x_stripes_l (rel : Nat) (h : Vseg V q (labs_stripes_l p)) : code_stripes_l t V q rel = xcode_stripes_l t p (V rel) := by
  unfold labs_stripes_l at h
  have s0 := Vseg.right h (n := 3) (by simp)
  have g0 := Vseg.left h
  have e0 := g0.at0
  have e1 := g0.at1
  have e2 := g0.at2
  unfold code_stripes_l xcode_stripes_l
  have f0 := x_locks2 (t := t) rel s0
  simp only [Nat.add_zero, f0, e0, e1, e2]
def xcode_stripes_v (t : TxC) (p : Nat) (rel : Int) : List OpD := [⟨1, 0, 6, 0, 0, 0⟩, ⟨2, 0, 4, 6, 0, 0⟩, ⟨1, 0, 3, 0, 0, 16⟩, ⟨3, 13, 4, 3, 0, 0⟩, ⟨7, 0, 4, 0, 0, ((p + 35 : Nat) : Int)⟩, ⟨4, 0, 4, 7, 0, t.base + 1⟩, ⟨3, 10, 4, 6, 0, 0⟩, ⟨1, 0, 3, 0, 0, 1⟩, ⟨3, 6, 4, 3, 0, 0⟩, ⟨7, 0, 4, 0, 0, ((p + 32 : Nat) : Int)⟩] ++ xcode_valid1 t (p + 10) rel ++ [⟨1, 0, 3, 0, 0, 1⟩, ⟨3, 1, 6, 3, 0, 0⟩, ⟨6, 0, 0, 0, 0, ((p + 1 : Nat) : Int)⟩]
theorem xcode_stripes_v_len (t : TxC) (p : Nat) (rel : Int) : (xcode_stripes_v t p rel).length = 35 := by simp [xcode_stripes_v, xcode_valid1_len]
theorem x_stripes_v (rel : Nat) (h : Vseg V q (labs_stripes_v p)) : code_stripes_v t V q rel = xcode_stripes_v t p (V rel) := by
  unfold labs_stripes_v at h
  have s0 := Vseg.right h (n := 3) (by simp)
  have g0 := Vseg.left h
  have e0 := g0.at0
  have e1 := g0.at1
  have e2 := g0.at2
  unfold code_stripes_v xcode_stripes_v
  have f0 := x_valid1 (t := t) rel s0
  simp only [Nat.add_zero, f0, e0, e1, e2]
def xcode_stripes_u (t : TxC) (p : Nat) : List OpD := [⟨1, 0, 6, 0, 0, 0⟩, ⟨2, 0, 4, 6, 0, 0⟩, ⟨1, 0, 3, 0, 0, 16⟩, ⟨3, 13, 4, 3, 0, 0⟩, ⟨7, 0, 4, 0, 0, ((p + 17 : Nat) : Int)⟩, ⟨4, 0, 4, 7, 0, t.base + 6⟩, ⟨3, 10, 4, 6, 0, 0⟩, ⟨1, 0, 3, 0, 0, 1⟩, ⟨3, 6, 4, 3, 0, 0⟩, ⟨7, 0, 4, 0, 0, ((p + 14 : Nat) : Int)⟩] ++ xcode_commit2 t (p + 10) ++ [⟨1, 0, 3, 0, 0, 1⟩, ⟨3, 1, 6, 3, 0, 0⟩, ⟨6, 0, 0, 0, 0, ((p + 1 : Nat) : Int)⟩]
theorem xcode_stripes_u_len (t : TxC) (p : Nat) : (xcode_stripes_u t p).length = 17 := by simp [xcode_stripes_u, xcode_commit2_len]
theorem x_stripes_u (h : Vseg V q (labs_stripes_u p)) : code_stripes_u t V q = xcode_stripes_u t p := by
  unfold labs_stripes_u at h
  have s0 := Vseg.right h (n := 3) (by simp)
  have g0 := Vseg.left h
  have e0 := g0.at0
  have e1 := g0.at1
  have e2 := g0.at2
  unfold code_stripes_u xcode_stripes_u
  have f0 := x_commit2 (t := t) s0
  simp only [Nat.add_zero, f0, e0, e1, e2]
def xcode_stripes_r (t : TxC) (p : Nat) : List OpD := [⟨1, 0, 6, 0, 0, 0⟩, ⟨2, 0, 4, 6, 0, 0⟩, ⟨1, 0, 3, 0, 0, 16⟩, ⟨3, 13, 4, 3, 0, 0⟩, ⟨7, 0, 4, 0, 0, ((p + 21 : Nat) : Int)⟩, ⟨4, 0, 4, 7, 0, t.base + 6⟩, ⟨3, 10, 4, 6, 0, 0⟩, ⟨1, 0, 3, 0, 0, 1⟩, ⟨3, 6, 4, 3, 0, 0⟩, ⟨7, 0, 4, 0, 0, ((p + 18 : Nat) : Int)⟩] ++ xcode_commit3 t (p + 10) ++ [⟨1, 0, 3, 0, 0, 1⟩, ⟨3, 1, 6, 3, 0, 0⟩, ⟨6, 0, 0, 0, 0, ((p + 1 : Nat) : Int)⟩]
theorem xcode_stripes_r_len (t : TxC) (p : Nat) : (xcode_stripes_r t p).length = 21 := by simp [xcode_stripes_r, xcode_commit3_len]
theorem x_stripes_r (h : Vseg V q (labs_stripes_r p)) : code_stripes_r t V q = xcode_stripes_r t p := by
  unfold labs_stripes_r at h
  have s0 := Vseg.right h (n := 3) (by simp)
  have g0 := Vseg.left h
  have e0 := g0.at0
  have e1 := g0.at1
  have e2 := g0.at2
  unfold code_stripes_r xcode_stripes_r
  have f0 := x_commit3 (t := t) s0
  simp only [Nat.add_zero, f0, e0, e1, e2]
def xcode_locks (t : TxC) (p : Nat) (rel : Int) : List OpD := [⟨1, 0, 2, 0, 0, 0⟩] ++ xcode_entries_l t (p + 1) ++ [⟨5, 0, 7, 2, 0, t.base + 7⟩] ++ xcode_stripes_l t (p + 16) rel
theorem xcode_locks_len (t : TxC) (p : Nat) (rel : Int) : (xcode_locks t p rel).length = 53 := by simp [xcode_locks, xcode_entries_l_len, xcode_stripes_l_len]
theorem x_locks (rel : Nat) (h : Vseg V q (labs_locks p)) : code_locks t V q rel = xcode_locks t p (V rel) := by
  unfold labs_locks at h
  have s1 := Vseg.right h (n := 2) (by simp [labs_entries_l_len])
  have g1 := Vseg.left h
  have s0 := Vseg.right g1 (n := 0) (by simp)
  rw [Nat.add_zero] at s0
  have g0 := Vseg.left g1
  unfold code_locks xcode_locks
  have f0 := x_entries_l (t := t) s0
  have f1 := x_stripes_l (t := t) rel s1
  simp only [Nat.add_zero, f0, f1]
def xcode_validate (t : TxC) (p : Nat) (rel : Int) : List OpD := xcode_stripes_v t (p) rel
theorem xcode_validate_len (t : TxC) (p : Nat) (rel : Int) : (xcode_validate t p rel).length = 35 := by simp [xcode_validate, xcode_stripes_v_len]
theorem x_validate (rel : Nat) (h : Vseg V q (labs_validate p)) : code_validate t V q rel = xcode_validate t p (V rel) := by
  unfold labs_validate at h
  have s0 := Vseg.right h (n := 0) (by simp)
  rw [Nat.add_zero] at s0
  have g0 := Vseg.left h
  unfold code_validate xcode_validate
  have f0 := x_stripes_v (t := t) rel s0
  simp only [Nat.add_zero, f0]
def xcode_commit (t : TxC) (p : Nat) (abort : Int) : List OpD := [⟨4, 0, 0, 7, 0, t.base + 2⟩, ⟨7, 0, 0, 0, 0, ((p + 157 : Nat) : Int)⟩] ++ xcode_locks t (p + 2) ((p + 135 : Nat) : Int) ++ [⟨1, 0, 1, 0, 0, 1⟩, ⟨9, 0, 7, 1, 0, t.words + 1⟩, ⟨1, 0, 4, 0, 0, 1⟩, ⟨3, 1, 1, 4, 0, 0⟩, ⟨5, 0, 7, 1, 0, t.base + 7⟩, ⟨2, 0, 2, 1, 0, 0⟩, ⟨1, 0, 4, 0, 0, 2305843009213693952⟩, ⟨3, 13, 2, 4, 0, 0⟩] ++ xcode_unless t (p + 63) 2 ((p + 66 : Nat) : Int) ++ [⟨13, 0, 0, 0, 0, 7⟩] ++ xcode_validate t (p + 66) ((p + 135 : Nat) : Int) ++ [⟨4, 0, 1, 7, 0, t.base + 7⟩, ⟨1, 0, 2, 0, 0, 1⟩, ⟨12, 0, 1, 2, 0, 7⟩] ++ xcode_entries_c t (p + 104) ++ [⟨4, 0, 1, 7, 0, t.base + 7⟩, ⟨3, 1, 1, 1, 0, 0⟩] ++ xcode_stripes_u t (p + 117) ++ [⟨6, 0, 0, 0, 0, ((p + 159 : Nat) : Int)⟩] ++ xcode_stripes_r t (p + 135) ++ [⟨6, 0, 0, 0, 0, abort⟩, ⟨4, 0, 1, 7, 0, t.base + 0⟩, ⟨12, 0, 1, 7, 0, 7⟩] ++ xcode_tell t (p + 159)
theorem xcode_commit_len (t : TxC) (p : Nat) (abort : Int) : (xcode_commit t p abort).length = 169 := by simp [xcode_commit, xcode_entries_c_len, xcode_locks_len, xcode_stripes_r_len, xcode_stripes_u_len, xcode_tell_len, xcode_unless_len, xcode_validate_len]
theorem x_commit (abort : Nat) (h : Vseg V q (labs_commit p)) : code_commit t V q abort = xcode_commit t p (V abort) := by
  unfold labs_commit at h
  have s6 := Vseg.right h (n := 26) (by simp [labs_locks_len, labs_unless_len, labs_validate_len, labs_entries_c_len, labs_stripes_u_len, labs_stripes_r_len])
  have g6 := Vseg.left h
  have s5 := Vseg.right g6 (n := 23) (by simp [labs_locks_len, labs_unless_len, labs_validate_len, labs_entries_c_len, labs_stripes_u_len])
  have g5 := Vseg.left g6
  have s4 := Vseg.right g5 (n := 20) (by simp [labs_locks_len, labs_unless_len, labs_validate_len, labs_entries_c_len])
  have g4 := Vseg.left g5
  have s3 := Vseg.right g4 (n := 18) (by simp [labs_locks_len, labs_unless_len, labs_validate_len])
  have g3 := Vseg.left g4
  have s2 := Vseg.right g3 (n := 12) (by simp [labs_locks_len, labs_unless_len])
  have g2 := Vseg.left g3
  have s1 := Vseg.right g2 (n := 11) (by simp [labs_locks_len])
  have g1 := Vseg.left g2
  have s0 := Vseg.right g1 (n := 4) (by simp)
  have g0 := Vseg.left g1
  have e0 := g0.at0
  have e1 := g0.at1
  have e2 := g0.at2
  have e3 := g0.at3
  unfold code_commit xcode_commit
  have f0 := x_locks (t := t) q s0
  have f1 := x_unless (t := t) 2 (q + 3) s1
  have f2 := x_validate (t := t) q s2
  have f3 := x_entries_c (t := t) s3
  have f4 := x_stripes_u (t := t) s4
  have f5 := x_stripes_r (t := t) s5
  have f6 := x_tell (t := t) s6
  simp only [Nat.add_zero, f0, f1, f2, f3, f4, f5, f6, e0, e1, e2, e3]
def xcode_begin_ (t : TxC) (p : Nat) : List OpD := [⟨4, 0, 1, 7, 0, t.base + 4⟩, ⟨5, 0, 7, 1, 0, t.base + 5⟩, ⟨5, 0, 7, 7, 0, t.base + 1⟩, ⟨5, 0, 7, 7, 0, t.base + 2⟩, ⟨5, 0, 7, 7, 0, t.base + 3⟩, ⟨5, 0, 7, 7, 0, t.base + 6⟩, ⟨15, 0, 0, 7, 0, t.words + 1⟩, ⟨5, 0, 7, 0, 0, t.base + 0⟩]
theorem xcode_begin__len (t : TxC) (p : Nat) : (xcode_begin_ t p).length = 8 := by simp [xcode_begin_]
theorem x_begin_ (h : Vseg V q (labs_begin_ p)) : code_begin_ t V q = xcode_begin_ t p := by
  unfold code_begin_ xcode_begin_
  rfl
def xcode_once_r (t : TxC) (p : Nat) (oth : Int) (oat : Int) (ov : Int) (abort : Int) : List OpD := [⟨1, 0, 1, 0, 0, oat⟩] ++ xcode_read t (p + 1) abort ++ [⟨4, 0, 1, 7, 0, t.sum⟩, ⟨3, 1, 1, 2, 0, 0⟩, ⟨5, 0, 7, 1, 0, t.sum⟩]
theorem xcode_once_r_len (t : TxC) (p : Nat) (oth : Int) (oat : Int) (ov : Int) (abort : Int) : (xcode_once_r t p oth oat ov abort).length = 48 := by simp [xcode_once_r, xcode_read_len]
theorem x_once_r (oth : Int) (oat : Int) (ov : Int) (abort : Nat) (h : Vseg V q (labs_once_r p)) : code_once_r t V q oth oat ov abort = xcode_once_r t p oth oat ov (V abort) := by
  unfold labs_once_r at h
  have s0 := Vseg.right h (n := 0) (by simp)
  rw [Nat.add_zero] at s0
  have g0 := Vseg.left h
  unfold code_once_r xcode_once_r
  have f0 := x_read (t := t) abort s0
  simp only [Nat.add_zero, f0]
def xcode_once_w (t : TxC) (p : Nat) (oth : Int) (oat : Int) (ov : Int) (abort : Int) : List OpD := [⟨1, 0, 1, 0, 0, oat⟩, ⟨4, 0, 2, 7, 0, t.sum⟩, ⟨1, 0, 3, 0, 0, ov⟩, ⟨3, 1, 2, 3, 0, 0⟩] ++ xcode_write t (p + 4)
theorem xcode_once_w_len (t : TxC) (p : Nat) (oth : Int) (oat : Int) (ov : Int) (abort : Int) : (xcode_once_w t p oth oat ov abort).length = 33 := by simp [xcode_once_w, xcode_write_len]
theorem x_once_w (oth : Int) (oat : Int) (ov : Int) (abort : Nat) (h : Vseg V q (labs_once_w p)) : code_once_w t V q oth oat ov abort = xcode_once_w t p oth oat ov (V abort) := by
  unfold labs_once_w at h
  have s0 := Vseg.right h (n := 0) (by simp)
  rw [Nat.add_zero] at s0
  have g0 := Vseg.left h
  unfold code_once_w xcode_once_w
  have f0 := x_write (t := t) s0
  simp only [Nat.add_zero, f0]
end

section
variable {V : Nat → Int} {c c0 c1 c2 : Cd} {p q n m : Nat} {ls : List Int} {R : List OpD} {t : TxC}

/-! ### room -/
def Adds (n : Nat) (c c' : Cd) : Prop := c'.over = false → c.over = false ∧ c'.ops.length = c.ops.length + n ∧ (0 < n → c.ops.length + n ≤ 262144)
theorem Adds.put (o : OpD) : Adds 1 c (c.put o) := by
  intro h
  unfold Cd.put at h ⊢
  split at h
  · cases h
  · rename_i hl
    rw [if_neg hl]
    exact ⟨h, by simp, fun _ => by omega⟩
theorem Adds.zero_ (h : c1.over = c.over) (hl : c1.ops = c.ops) : Adds 0 c c1 := fun ho => ⟨by rw [← h]; exact ho, by rw [hl]; rfl, fun h => by omega⟩
theorem Adds.label : Adds 0 c c.label := .zero_ rfl rfl
theorem Adds.here (l : Nat) : Adds 0 c (c.here l) := .zero_ rfl rfl
theorem Adds.mark (l : Nat) : Adds 0 c (c.mark l) := .zero_ rfl rfl
theorem Adds.trans (h : Adds n c c1) (g : Adds m c1 c2) : Adds (n + m) c c2 := fun ho => by
  obtain ⟨g1, g2, g3⟩ := g ho
  obtain ⟨h1, h2, h3⟩ := h g1
  refine ⟨h1, by omega, fun hp => ?_⟩
  rcases Nat.eq_zero_or_pos m with e | e
  · have := h3 (by omega); omega
  · have := g3 e; omega
theorem Adds.jump (l : Nat) : Adds 1 c (c.jump l) := (Adds.mark l).trans (Adds.put _)
theorem Adds.zero (r : Int) (l : Nat) : Adds 1 c (c.zero r l) := (Adds.mark l).trans (Adds.put _)
theorem Adds.refl : Adds 0 c c := .zero_ rfl rfl

/-! ### each may be -/
def EmOpOk (o : OpD) : Prop := checkS o = true ∧ wfOp o
def AllOk (l : List OpD) : Prop := ∀ o ∈ l, EmOpOk o
theorem AllOk.nil : AllOk [] := fun o h => by cases h
theorem AllOk.cons {o : OpD} {l : List OpD} (h : EmOpOk o) (g : AllOk l) : AllOk (o :: l) := fun x hx => by
  rcases List.mem_cons.1 hx with rfl | hx
  · exact h
  · exact g x hx
theorem AllOk.app {l r : List OpD} (h : AllOk l) (g : AllOk r) : AllOk (l ++ r) := fun x hx => by
  rcases List.mem_append.1 hx with hx | hx
  · exact h x hx
  · exact g x hx
def In64 (x : Int) : Prop := -9223372036854775808 ≤ x ∧ x ≤ 9223372036854775807
def InCode (x : Int) : Prop := 0 ≤ x ∧ x ≤ 262144
def RegOk (r : Int) : Prop := 0 ≤ r ∧ r < 8
theorem ok_set {r n : Int} (hr : RegOk r) (hn : In64 n) : EmOpOk ⟨1, 0, r, 0, 0, n⟩ := by
  unfold RegOk In64 at *
  refine ⟨?_, ?_⟩
  · simp [checkS, formS, fm, okReg, okNum]; omega
  · simp [wfOp]; omega
theorem ok_move {a b : Int} (ha : RegOk a) (hb : RegOk b) : EmOpOk ⟨2, 0, a, b, 0, 0⟩ := by
  unfold RegOk at *
  refine ⟨?_, ?_⟩
  · simp [checkS, formS, fm, okReg, okNum]; omega
  · simp [wfOp]; omega
theorem ok_calc {q a b : Int} (hq : 1 ≤ q ∧ q ≤ 14) (ha : RegOk a) (hb : RegOk b) : EmOpOk ⟨3, q, a, b, 0, 0⟩ := by
  unfold RegOk at *
  refine ⟨?_, ?_⟩
  · simp [checkS, formS, fm, okReg, okNum]; omega
  · simp [wfOp]; omega
theorem ok_mem {k a b n : Int} (hk : k = 4 ∨ k = 5 ∨ k = 9 ∨ k = 15) (ha : RegOk a) (hb : RegOk b) (hn : In64 n) : EmOpOk ⟨k, 0, a, b, 0, n⟩ := by
  unfold RegOk In64 at *
  refine ⟨?_, ?_⟩
  · rcases hk with rfl | rfl | rfl | rfl <;> simp [checkS, formS, fm, okReg, okNum] <;> omega
  · simp [wfOp]; omega
theorem ok_jump {n : Int} (hn : InCode n) : EmOpOk ⟨6, 0, 0, 0, 0, n⟩ := by
  unfold InCode at *
  refine ⟨?_, ?_⟩
  · simp [checkS, formS, fm, okReg, okNum]; omega
  · simp [wfOp]; omega
theorem ok_zero {r n : Int} (hr : RegOk r) (hn : InCode n) : EmOpOk ⟨7, 0, r, 0, 0, n⟩ := by
  unfold InCode RegOk at *
  refine ⟨?_, ?_⟩
  · simp [checkS, formS, fm, okReg, okNum]; omega
  · simp [wfOp]; omega
theorem ok_cas : EmOpOk ⟨8, 0, 5, 4, 2, 0⟩ := by
  refine ⟨?_, ?_⟩
  · simp [checkS, formS, fm, okReg, okNum]
  · simp [wfOp]
theorem ok_out {r : Int} (hr : RegOk r) : EmOpOk ⟨11, 0, r, 0, 0, 0⟩ := by
  unfold RegOk at *
  refine ⟨?_, ?_⟩
  · simp [checkS, formS, fm, okReg, okNum]; omega
  · simp [wfOp]; omega
theorem ok_note {k a b : Int} (hk : 1 ≤ k ∧ k ≤ 8) (ha : RegOk a) (hb : RegOk b) : EmOpOk ⟨12, 0, a, b, 0, k⟩ := by
  unfold RegOk at *
  refine ⟨?_, ?_⟩
  · simp [checkS, formS, fm, okReg, okNum]; omega
  · simp [wfOp]; omega
theorem ok_trap {k : Int} (hk : 2 ≤ k ∧ k ≤ 8) : EmOpOk ⟨13, 0, 0, 0, 0, k⟩ := by
  refine ⟨?_, ?_⟩
  · simp [checkS, formS, fm, okReg, okNum]; omega
  · simp [wfOp]; omega
theorem ok_halt : EmOpOk ⟨14, 0, 0, 0, 0, 0⟩ := by
  refine ⟨?_, ?_⟩
  · simp [checkS, formS, fm, okReg, okNum]
  · simp [wfOp]

theorem adds_search (found : Nat) : Adds 12 c0 (c0.search t found) := by
  have a1 := Adds.label (c := c0)
  have a2 := Adds.trans a1 (Adds.label)
  have a3 := Adds.trans a2 (Adds.put ⟨4, 0, 3, 7, 0, t.base + 2⟩)
  have a4 := Adds.trans a3 (Adds.here ((c0).labs.length))
  have a5 := Adds.trans a4 (Adds.zero 3 ((c0.label).labs.length))
  have a6 := Adds.trans a5 (Adds.put ⟨1, 0, 4, 0, 0, 1⟩)
  have a7 := Adds.trans a6 (Adds.put ⟨3, 2, 3, 4, 0, 0⟩)
  have a8 := Adds.trans a7 (Adds.put ⟨2, 0, 5, 3, 0, 0⟩)
  have a9 := Adds.trans a8 (Adds.put ⟨3, 1, 5, 5, 0, 0⟩)
  have a10 := Adds.trans a9 (Adds.put ⟨1, 0, 4, 0, 0, t.log⟩)
  have a11 := Adds.trans a10 (Adds.put ⟨3, 1, 5, 4, 0, 0⟩)
  have a12 := Adds.trans a11 (Adds.put ⟨4, 0, 6, 5, 0, 0⟩)
  have a13 := Adds.trans a12 (Adds.put ⟨3, 2, 6, 1, 0, 0⟩)
  have a14 := Adds.trans a13 (Adds.zero 6 (found))
  have a15 := Adds.trans a14 (Adds.jump ((c0).labs.length))
  have a16 := Adds.trans a15 (Adds.here ((c0.label).labs.length))
  exact a16
theorem ok_search {found : Int} (ok : TxOk t) (hp : p + 12 ≤ 262144) (hfound : InCode found) : AllOk (xcode_search t p found) := by
  obtain ⟨⟨w1, w2⟩, ⟨l1, l2⟩, ⟨r1, r2⟩, ⟨a1, a2⟩, ⟨b1, b2⟩, ⟨t1, t2⟩, ⟨s1, s2⟩⟩ := id ok
  unfold xcode_search
  exact (.cons (ok_mem (by decide) ⟨by decide, by decide⟩ ⟨by decide, by decide⟩ (by unfold In64; omega)) (.cons (ok_zero ⟨by decide, by decide⟩ (by unfold InCode; omega)) (.cons (ok_set ⟨by decide, by decide⟩ (by unfold In64; omega)) (.cons (ok_calc (by decide) ⟨by decide, by decide⟩ ⟨by decide, by decide⟩) (.cons (ok_move ⟨by decide, by decide⟩ ⟨by decide, by decide⟩) (.cons (ok_calc (by decide) ⟨by decide, by decide⟩ ⟨by decide, by decide⟩) (.cons (ok_set ⟨by decide, by decide⟩ (by unfold In64; omega)) (.cons (ok_calc (by decide) ⟨by decide, by decide⟩ ⟨by decide, by decide⟩) (.cons (ok_mem (by decide) ⟨by decide, by decide⟩ ⟨by decide, by decide⟩ (by unfold In64; omega)) (.cons (ok_calc (by decide) ⟨by decide, by decide⟩ ⟨by decide, by decide⟩) (.cons (ok_zero ⟨by decide, by decide⟩ hfound) (.cons (ok_jump (by unfold InCode; omega)) .nil))))))))))))
theorem adds_unless (r : Int) (l : Nat) : Adds 2 c0 (c0.unless t r l) := by
  have a1 := Adds.label (c := c0)
  have a2 := Adds.trans a1 (Adds.zero r ((c0).labs.length))
  have a3 := Adds.trans a2 (Adds.jump (l))
  have a4 := Adds.trans a3 (Adds.here ((c0).labs.length))
  exact a4
theorem ok_unless {r : Int} {l : Int} (ok : TxOk t) (hp : p + 2 ≤ 262144) (hr : RegOk r) (hl : InCode l) : AllOk (xcode_unless t p r l) := by
  obtain ⟨⟨w1, w2⟩, ⟨l1, l2⟩, ⟨r1, r2⟩, ⟨a1, a2⟩, ⟨b1, b2⟩, ⟨t1, t2⟩, ⟨s1, s2⟩⟩ := id ok
  unfold xcode_unless
  exact (.cons (ok_zero hr (by unfold InCode; omega)) (.cons (ok_jump hl) .nil))
theorem adds_lock : Adds 3 c0 (c0.lock t) := by
  have a1 := Adds.put (c := c0) ⟨2, 0, 5, 6, 0, 0⟩
  have a2 := Adds.trans a1 (Adds.put ⟨1, 0, 4, 0, 0, (t.words + 2)⟩)
  have a3 := Adds.trans a2 (Adds.put ⟨3, 1, 5, 4, 0, 0⟩)
  exact a3
theorem ok_lock (ok : TxOk t) (hp : p + 3 ≤ 262144) : AllOk (xcode_lock t p) := by
  obtain ⟨⟨w1, w2⟩, ⟨l1, l2⟩, ⟨r1, r2⟩, ⟨a1, a2⟩, ⟨b1, b2⟩, ⟨t1, t2⟩, ⟨s1, s2⟩⟩ := id ok
  unfold xcode_lock
  exact (.cons (ok_move ⟨by decide, by decide⟩ ⟨by decide, by decide⟩) (.cons (ok_set ⟨by decide, by decide⟩ (by unfold In64; omega)) (.cons (ok_calc (by decide) ⟨by decide, by decide⟩ ⟨by decide, by decide⟩) .nil)))
theorem adds_old : Adds 3 c0 (c0.old t) := by
  have a1 := Adds.put (c := c0) ⟨2, 0, 5, 6, 0, 0⟩
  have a2 := Adds.trans a1 (Adds.put ⟨1, 0, 4, 0, 0, (t.base + 8)⟩)
  have a3 := Adds.trans a2 (Adds.put ⟨3, 1, 5, 4, 0, 0⟩)
  exact a3
theorem ok_old (ok : TxOk t) (hp : p + 3 ≤ 262144) : AllOk (xcode_old t p) := by
  obtain ⟨⟨w1, w2⟩, ⟨l1, l2⟩, ⟨r1, r2⟩, ⟨a1, a2⟩, ⟨b1, b2⟩, ⟨t1, t2⟩, ⟨s1, s2⟩⟩ := id ok
  unfold xcode_old
  exact (.cons (ok_move ⟨by decide, by decide⟩ ⟨by decide, by decide⟩) (.cons (ok_set ⟨by decide, by decide⟩ (by unfold In64; omega)) (.cons (ok_calc (by decide) ⟨by decide, by decide⟩ ⟨by decide, by decide⟩) .nil)))
theorem adds_start : Adds 2 c0 (c0.start t) := by
  have a1 := Adds.put (c := c0) ⟨1, 0, 0, 0, 0, t.arena⟩
  have a2 := Adds.trans a1 (Adds.put ⟨5, 0, 7, 0, 0, t.base + 4⟩)
  exact a2
theorem ok_start (ok : TxOk t) (hp : p + 2 ≤ 262144) : AllOk (xcode_start t p) := by
  obtain ⟨⟨w1, w2⟩, ⟨l1, l2⟩, ⟨r1, r2⟩, ⟨a1, a2⟩, ⟨b1, b2⟩, ⟨t1, t2⟩, ⟨s1, s2⟩⟩ := id ok
  unfold xcode_start
  exact (.cons (ok_set ⟨by decide, by decide⟩ (by unfold In64; omega)) (.cons (ok_mem (by decide) ⟨by decide, by decide⟩ ⟨by decide, by decide⟩ (by unfold In64; omega)) .nil))
theorem adds_abort : Adds 3 c0 (c0.abort t) := by
  have a1 := Adds.put (c := c0) ⟨12, 0, 7, 7, 0, 8⟩
  have a2 := Adds.trans a1 (Adds.put ⟨4, 0, 1, 7, 0, t.base + 5⟩)
  have a3 := Adds.trans a2 (Adds.put ⟨5, 0, 7, 1, 0, t.base + 4⟩)
  exact a3
theorem ok_abort (ok : TxOk t) (hp : p + 3 ≤ 262144) : AllOk (xcode_abort t p) := by
  obtain ⟨⟨w1, w2⟩, ⟨l1, l2⟩, ⟨r1, r2⟩, ⟨a1, a2⟩, ⟨b1, b2⟩, ⟨t1, t2⟩, ⟨s1, s2⟩⟩ := id ok
  unfold xcode_abort
  exact (.cons (ok_note (by decide) ⟨by decide, by decide⟩ ⟨by decide, by decide⟩) (.cons (ok_mem (by decide) ⟨by decide, by decide⟩ ⟨by decide, by decide⟩ (by unfold In64; omega)) (.cons (ok_mem (by decide) ⟨by decide, by decide⟩ ⟨by decide, by decide⟩ (by unfold In64; omega)) .nil)))
theorem adds_tell : Adds 10 c0 (c0.tell t) := by
  have a1 := Adds.label (c := c0)
  have a2 := Adds.trans a1 (Adds.label)
  have a3 := Adds.trans a2 (Adds.put ⟨1, 0, 1, 0, 0, t.prints⟩)
  have a4 := Adds.trans a3 (Adds.put ⟨4, 0, 2, 7, 0, t.base + 3⟩)
  have a5 := Adds.trans a4 (Adds.here ((c0).labs.length))
  have a6 := Adds.trans a5 (Adds.zero 2 ((c0.label).labs.length))
  have a7 := Adds.trans a6 (Adds.put ⟨4, 0, 3, 1, 0, 0⟩)
  have a8 := Adds.trans a7 (Adds.put ⟨11, 0, 3, 0, 0, 0⟩)
  have a9 := Adds.trans a8 (Adds.put ⟨1, 0, 4, 0, 0, 1⟩)
  have a10 := Adds.trans a9 (Adds.put ⟨3, 1, 1, 4, 0, 0⟩)
  have a11 := Adds.trans a10 (Adds.put ⟨1, 0, 4, 0, 0, 1⟩)
  have a12 := Adds.trans a11 (Adds.put ⟨3, 2, 2, 4, 0, 0⟩)
  have a13 := Adds.trans a12 (Adds.jump ((c0).labs.length))
  have a14 := Adds.trans a13 (Adds.here ((c0.label).labs.length))
  exact a14
theorem ok_tell (ok : TxOk t) (hp : p + 10 ≤ 262144) : AllOk (xcode_tell t p) := by
  obtain ⟨⟨w1, w2⟩, ⟨l1, l2⟩, ⟨r1, r2⟩, ⟨a1, a2⟩, ⟨b1, b2⟩, ⟨t1, t2⟩, ⟨s1, s2⟩⟩ := id ok
  unfold xcode_tell
  exact (.cons (ok_set ⟨by decide, by decide⟩ (by unfold In64; omega)) (.cons (ok_mem (by decide) ⟨by decide, by decide⟩ ⟨by decide, by decide⟩ (by unfold In64; omega)) (.cons (ok_zero ⟨by decide, by decide⟩ (by unfold InCode; omega)) (.cons (ok_mem (by decide) ⟨by decide, by decide⟩ ⟨by decide, by decide⟩ (by unfold In64; omega)) (.cons (ok_out ⟨by decide, by decide⟩) (.cons (ok_set ⟨by decide, by decide⟩ (by unfold In64; omega)) (.cons (ok_calc (by decide) ⟨by decide, by decide⟩ ⟨by decide, by decide⟩) (.cons (ok_set ⟨by decide, by decide⟩ (by unfold In64; omega)) (.cons (ok_calc (by decide) ⟨by decide, by decide⟩ ⟨by decide, by decide⟩) (.cons (ok_jump (by unfold InCode; omega)) .nil))))))))))
theorem adds_read (abort : Nat) : Adds 44 c0 (c0.read t abort) := by
  have a1 := Adds.label (c := c0)
  have a2 := Adds.trans a1 (Adds.label)
  have a3 := Adds.trans a2 (adds_search (t := t) ((c0).labs.length))
  have a4 := Adds.trans a3 (Adds.put ⟨2, 0, 5, 1, 0, 0⟩)
  have a5 := Adds.trans a4 (Adds.put ⟨1, 0, 4, 0, 0, 15⟩)
  have a6 := Adds.trans a5 (Adds.put ⟨3, 6, 5, 4, 0, 0⟩)
  have a7 := Adds.trans a6 (Adds.put ⟨2, 0, 0, 5, 0, 0⟩)
  have a8 := Adds.trans a7 (Adds.put ⟨1, 0, 4, 0, 0, (t.words + 2)⟩)
  have a9 := Adds.trans a8 (Adds.put ⟨3, 1, 5, 4, 0, 0⟩)
  have a10 := Adds.trans a9 (Adds.put ⟨4, 0, 3, 5, 0, 0⟩)
  have a11 := Adds.trans a10 (Adds.put ⟨2, 0, 6, 3, 0, 0⟩)
  have a12 := Adds.trans a11 (Adds.put ⟨1, 0, 4, 0, 0, 1⟩)
  have a13 := Adds.trans a12 (Adds.put ⟨3, 6, 6, 4, 0, 0⟩)
  have a14 := Adds.trans a13 (adds_unless (t := t) 6 abort)
  have a15 := Adds.trans a14 (Adds.put ⟨2, 0, 6, 3, 0, 0⟩)
  have a16 := Adds.trans a15 (Adds.put ⟨1, 0, 4, 0, 0, 1⟩)
  have a17 := Adds.trans a16 (Adds.put ⟨3, 10, 6, 4, 0, 0⟩)
  have a18 := Adds.trans a17 (Adds.put ⟨4, 0, 4, 7, 0, t.base + 0⟩)
  have a19 := Adds.trans a18 (Adds.put ⟨3, 13, 4, 6, 0, 0⟩)
  have a20 := Adds.trans a19 (adds_unless (t := t) 4 abort)
  have a21 := Adds.trans a20 (Adds.put ⟨4, 0, 2, 1, 0, 0⟩)
  have a22 := Adds.trans a21 (Adds.put ⟨4, 0, 4, 5, 0, 0⟩)
  have a23 := Adds.trans a22 (Adds.put ⟨3, 2, 4, 3, 0, 0⟩)
  have a24 := Adds.trans a23 (adds_unless (t := t) 4 abort)
  have a25 := Adds.trans a24 (Adds.put ⟨1, 0, 4, 0, 0, 1⟩)
  have a26 := Adds.trans a25 (Adds.put ⟨3, 9, 4, 0, 0, 0⟩)
  have a27 := Adds.trans a26 (Adds.put ⟨4, 0, 6, 7, 0, t.base + 1⟩)
  have a28 := Adds.trans a27 (Adds.put ⟨3, 7, 6, 4, 0, 0⟩)
  have a29 := Adds.trans a28 (Adds.put ⟨5, 0, 7, 6, 0, t.base + 1⟩)
  have a30 := Adds.trans a29 (Adds.jump ((c0.label).labs.length))
  have a31 := Adds.trans a30 (Adds.here ((c0).labs.length))
  have a32 := Adds.trans a31 (Adds.put ⟨4, 0, 2, 5, 0, 1⟩)
  have a33 := Adds.trans a32 (Adds.here ((c0.label).labs.length))
  have a34 := Adds.trans a33 (Adds.put ⟨12, 0, 1, 2, 0, 2⟩)
  exact a34
theorem ok_read {abort : Int} (ok : TxOk t) (hp : p + 44 ≤ 262144) (habort : InCode abort) : AllOk (xcode_read t p abort) := by
  obtain ⟨⟨w1, w2⟩, ⟨l1, l2⟩, ⟨r1, r2⟩, ⟨a1, a2⟩, ⟨b1, b2⟩, ⟨t1, t2⟩, ⟨s1, s2⟩⟩ := id ok
  unfold xcode_read
  exact (AllOk.app (AllOk.app (AllOk.app (AllOk.app (AllOk.app (AllOk.app (AllOk.app (ok_search ok (by omega) (by unfold InCode; omega)) (.cons (ok_move ⟨by decide, by decide⟩ ⟨by decide, by decide⟩) (.cons (ok_set ⟨by decide, by decide⟩ (by unfold In64; omega)) (.cons (ok_calc (by decide) ⟨by decide, by decide⟩ ⟨by decide, by decide⟩) (.cons (ok_move ⟨by decide, by decide⟩ ⟨by decide, by decide⟩) (.cons (ok_set ⟨by decide, by decide⟩ (by unfold In64; omega)) (.cons (ok_calc (by decide) ⟨by decide, by decide⟩ ⟨by decide, by decide⟩) (.cons (ok_mem (by decide) ⟨by decide, by decide⟩ ⟨by decide, by decide⟩ (by unfold In64; omega)) (.cons (ok_move ⟨by decide, by decide⟩ ⟨by decide, by decide⟩) (.cons (ok_set ⟨by decide, by decide⟩ (by unfold In64; omega)) (.cons (ok_calc (by decide) ⟨by decide, by decide⟩ ⟨by decide, by decide⟩) .nil))))))))))) (ok_unless ok (by omega) ⟨by decide, by decide⟩ habort)) (.cons (ok_move ⟨by decide, by decide⟩ ⟨by decide, by decide⟩) (.cons (ok_set ⟨by decide, by decide⟩ (by unfold In64; omega)) (.cons (ok_calc (by decide) ⟨by decide, by decide⟩ ⟨by decide, by decide⟩) (.cons (ok_mem (by decide) ⟨by decide, by decide⟩ ⟨by decide, by decide⟩ (by unfold In64; omega)) (.cons (ok_calc (by decide) ⟨by decide, by decide⟩ ⟨by decide, by decide⟩) .nil)))))) (ok_unless ok (by omega) ⟨by decide, by decide⟩ habort)) (.cons (ok_mem (by decide) ⟨by decide, by decide⟩ ⟨by decide, by decide⟩ (by unfold In64; omega)) (.cons (ok_mem (by decide) ⟨by decide, by decide⟩ ⟨by decide, by decide⟩ (by unfold In64; omega)) (.cons (ok_calc (by decide) ⟨by decide, by decide⟩ ⟨by decide, by decide⟩) .nil)))) (ok_unless ok (by omega) ⟨by decide, by decide⟩ habort)) (.cons (ok_set ⟨by decide, by decide⟩ (by unfold In64; omega)) (.cons (ok_calc (by decide) ⟨by decide, by decide⟩ ⟨by decide, by decide⟩) (.cons (ok_mem (by decide) ⟨by decide, by decide⟩ ⟨by decide, by decide⟩ (by unfold In64; omega)) (.cons (ok_calc (by decide) ⟨by decide, by decide⟩ ⟨by decide, by decide⟩) (.cons (ok_mem (by decide) ⟨by decide, by decide⟩ ⟨by decide, by decide⟩ (by unfold In64; omega)) (.cons (ok_jump (by unfold InCode; omega)) (.cons (ok_mem (by decide) ⟨by decide, by decide⟩ ⟨by decide, by decide⟩ (by unfold In64; omega)) (.cons (ok_note (by decide) ⟨by decide, by decide⟩ ⟨by decide, by decide⟩) .nil)))))))))
theorem adds_write : Adds 29 c0 (c0.write t) := by
  have a1 := Adds.label (c := c0)
  have a2 := Adds.trans a1 (Adds.label)
  have a3 := Adds.trans a2 (Adds.label)
  have a4 := Adds.trans a3 (adds_search (t := t) ((c0).labs.length))
  have a5 := Adds.trans a4 (Adds.put ⟨4, 0, 3, 7, 0, t.base + 2⟩)
  have a6 := Adds.trans a5 (Adds.put ⟨2, 0, 4, 3, 0, 0⟩)
  have a7 := Adds.trans a6 (Adds.put ⟨1, 0, 6, 0, 0, 64⟩)
  have a8 := Adds.trans a7 (Adds.put ⟨3, 13, 4, 6, 0, 0⟩)
  have a9 := Adds.trans a8 (adds_unless (t := t) 4 ((c0.label.label).labs.length))
  have a10 := Adds.trans a9 (Adds.put ⟨13, 0, 0, 0, 0, 6⟩)
  have a11 := Adds.trans a10 (Adds.here ((c0.label.label).labs.length))
  have a12 := Adds.trans a11 (Adds.put ⟨2, 0, 5, 3, 0, 0⟩)
  have a13 := Adds.trans a12 (Adds.put ⟨3, 1, 5, 5, 0, 0⟩)
  have a14 := Adds.trans a13 (Adds.put ⟨1, 0, 4, 0, 0, t.log⟩)
  have a15 := Adds.trans a14 (Adds.put ⟨3, 1, 5, 4, 0, 0⟩)
  have a16 := Adds.trans a15 (Adds.put ⟨5, 0, 5, 1, 0, 0⟩)
  have a17 := Adds.trans a16 (Adds.put ⟨1, 0, 4, 0, 0, 1⟩)
  have a18 := Adds.trans a17 (Adds.put ⟨3, 1, 3, 4, 0, 0⟩)
  have a19 := Adds.trans a18 (Adds.put ⟨5, 0, 7, 3, 0, t.base + 2⟩)
  have a20 := Adds.trans a19 (Adds.here ((c0).labs.length))
  have a21 := Adds.trans a20 (Adds.put ⟨5, 0, 5, 2, 0, 1⟩)
  have a22 := Adds.trans a21 (Adds.here ((c0.label).labs.length))
  have a23 := Adds.trans a22 (Adds.put ⟨12, 0, 1, 2, 0, 3⟩)
  exact a23
theorem ok_write (ok : TxOk t) (hp : p + 29 ≤ 262144) : AllOk (xcode_write t p) := by
  obtain ⟨⟨w1, w2⟩, ⟨l1, l2⟩, ⟨r1, r2⟩, ⟨a1, a2⟩, ⟨b1, b2⟩, ⟨t1, t2⟩, ⟨s1, s2⟩⟩ := id ok
  unfold xcode_write
  exact (AllOk.app (AllOk.app (AllOk.app (ok_search ok (by omega) (by unfold InCode; omega)) (.cons (ok_mem (by decide) ⟨by decide, by decide⟩ ⟨by decide, by decide⟩ (by unfold In64; omega)) (.cons (ok_move ⟨by decide, by decide⟩ ⟨by decide, by decide⟩) (.cons (ok_set ⟨by decide, by decide⟩ (by unfold In64; omega)) (.cons (ok_calc (by decide) ⟨by decide, by decide⟩ ⟨by decide, by decide⟩) .nil))))) (ok_unless ok (by omega) ⟨by decide, by decide⟩ (by unfold InCode; omega))) (.cons (ok_trap (by decide)) (.cons (ok_move ⟨by decide, by decide⟩ ⟨by decide, by decide⟩) (.cons (ok_calc (by decide) ⟨by decide, by decide⟩ ⟨by decide, by decide⟩) (.cons (ok_set ⟨by decide, by decide⟩ (by unfold In64; omega)) (.cons (ok_calc (by decide) ⟨by decide, by decide⟩ ⟨by decide, by decide⟩) (.cons (ok_mem (by decide) ⟨by decide, by decide⟩ ⟨by decide, by decide⟩ (by unfold In64; omega)) (.cons (ok_set ⟨by decide, by decide⟩ (by unfold In64; omega)) (.cons (ok_calc (by decide) ⟨by decide, by decide⟩ ⟨by decide, by decide⟩) (.cons (ok_mem (by decide) ⟨by decide, by decide⟩ ⟨by decide, by decide⟩ (by unfold In64; omega)) (.cons (ok_mem (by decide) ⟨by decide, by decide⟩ ⟨by decide, by decide⟩ (by unfold In64; omega)) (.cons (ok_note (by decide) ⟨by decide, by decide⟩ ⟨by decide, by decide⟩) .nil))))))))))))
theorem adds_locks1 : Adds 6 c0 (c0.locks1 t) := by
  have a1 := Adds.put (c := c0) ⟨4, 0, 3, 5, 0, 0⟩
  have a2 := Adds.trans a1 (Adds.put ⟨1, 0, 4, 0, 0, 15⟩)
  have a3 := Adds.trans a2 (Adds.put ⟨3, 6, 3, 4, 0, 0⟩)
  have a4 := Adds.trans a3 (Adds.put ⟨1, 0, 4, 0, 0, 1⟩)
  have a5 := Adds.trans a4 (Adds.put ⟨3, 9, 4, 3, 0, 0⟩)
  have a6 := Adds.trans a5 (Adds.put ⟨3, 7, 2, 4, 0, 0⟩)
  exact a6
theorem ok_locks1 (ok : TxOk t) (hp : p + 6 ≤ 262144) : AllOk (xcode_locks1 t p) := by
  obtain ⟨⟨w1, w2⟩, ⟨l1, l2⟩, ⟨r1, r2⟩, ⟨a1, a2⟩, ⟨b1, b2⟩, ⟨t1, t2⟩, ⟨s1, s2⟩⟩ := id ok
  unfold xcode_locks1
  exact (.cons (ok_mem (by decide) ⟨by decide, by decide⟩ ⟨by decide, by decide⟩ (by unfold In64; omega)) (.cons (ok_set ⟨by decide, by decide⟩ (by unfold In64; omega)) (.cons (ok_calc (by decide) ⟨by decide, by decide⟩ ⟨by decide, by decide⟩) (.cons (ok_set ⟨by decide, by decide⟩ (by unfold In64; omega)) (.cons (ok_calc (by decide) ⟨by decide, by decide⟩ ⟨by decide, by decide⟩) (.cons (ok_calc (by decide) ⟨by decide, by decide⟩ ⟨by decide, by decide⟩) .nil))))))
theorem adds_commit1 : Adds 3 c0 (c0.commit1 t) := by
  have a1 := Adds.put (c := c0) ⟨4, 0, 2, 5, 0, 0⟩
  have a2 := Adds.trans a1 (Adds.put ⟨4, 0, 3, 5, 0, 1⟩)
  have a3 := Adds.trans a2 (Adds.put ⟨5, 0, 2, 3, 0, 0⟩)
  exact a3
theorem ok_commit1 (ok : TxOk t) (hp : p + 3 ≤ 262144) : AllOk (xcode_commit1 t p) := by
  obtain ⟨⟨w1, w2⟩, ⟨l1, l2⟩, ⟨r1, r2⟩, ⟨a1, a2⟩, ⟨b1, b2⟩, ⟨t1, t2⟩, ⟨s1, s2⟩⟩ := id ok
  unfold xcode_commit1
  exact (.cons (ok_mem (by decide) ⟨by decide, by decide⟩ ⟨by decide, by decide⟩ (by unfold In64; omega)) (.cons (ok_mem (by decide) ⟨by decide, by decide⟩ ⟨by decide, by decide⟩ (by unfold In64; omega)) (.cons (ok_mem (by decide) ⟨by decide, by decide⟩ ⟨by decide, by decide⟩ (by unfold In64; omega)) .nil)))
theorem adds_commit2 : Adds 4 c0 (c0.commit2 t) := by
  have a1 := adds_lock (c0 := c0) (t := t)
  have a2 := Adds.trans a1 (Adds.put ⟨5, 0, 5, 1, 0, 0⟩)
  exact a2
theorem ok_commit2 (ok : TxOk t) (hp : p + 4 ≤ 262144) : AllOk (xcode_commit2 t p) := by
  obtain ⟨⟨w1, w2⟩, ⟨l1, l2⟩, ⟨r1, r2⟩, ⟨a1, a2⟩, ⟨b1, b2⟩, ⟨t1, t2⟩, ⟨s1, s2⟩⟩ := id ok
  unfold xcode_commit2
  exact (AllOk.app (ok_lock ok (by omega)) (.cons (ok_mem (by decide) ⟨by decide, by decide⟩ ⟨by decide, by decide⟩ (by unfold In64; omega)) .nil))
theorem adds_commit3 : Adds 8 c0 (c0.commit3 t) := by
  have a1 := adds_old (c0 := c0) (t := t)
  have a2 := Adds.trans a1 (Adds.put ⟨4, 0, 2, 5, 0, 0⟩)
  have a3 := Adds.trans a2 (adds_lock (t := t))
  have a4 := Adds.trans a3 (Adds.put ⟨5, 0, 5, 2, 0, 0⟩)
  exact a4
theorem ok_commit3 (ok : TxOk t) (hp : p + 8 ≤ 262144) : AllOk (xcode_commit3 t p) := by
  obtain ⟨⟨w1, w2⟩, ⟨l1, l2⟩, ⟨r1, r2⟩, ⟨a1, a2⟩, ⟨b1, b2⟩, ⟨t1, t2⟩, ⟨s1, s2⟩⟩ := id ok
  unfold xcode_commit3
  exact (AllOk.app (AllOk.app (AllOk.app (ok_old ok (by omega)) (.cons (ok_mem (by decide) ⟨by decide, by decide⟩ ⟨by decide, by decide⟩ (by unfold In64; omega)) .nil)) (ok_lock ok (by omega))) (.cons (ok_mem (by decide) ⟨by decide, by decide⟩ ⟨by decide, by decide⟩ (by unfold In64; omega)) .nil))
theorem adds_locks2 (rel : Nat) : Adds 24 c0 (c0.locks2 t rel) := by
  have a1 := adds_lock (c0 := c0) (t := t)
  have a2 := Adds.trans a1 (Adds.put ⟨4, 0, 3, 5, 0, 0⟩)
  have a3 := Adds.trans a2 (Adds.put ⟨2, 0, 4, 3, 0, 0⟩)
  have a4 := Adds.trans a3 (Adds.put ⟨1, 0, 2, 0, 0, 1⟩)
  have a5 := Adds.trans a4 (Adds.put ⟨3, 6, 4, 2, 0, 0⟩)
  have a6 := Adds.trans a5 (adds_unless (t := t) 4 rel)
  have a7 := Adds.trans a6 (Adds.put ⟨2, 0, 4, 3, 0, 0⟩)
  have a8 := Adds.trans a7 (Adds.put ⟨1, 0, 2, 0, 0, (2 * t.th + 1)⟩)
  have a9 := Adds.trans a8 (Adds.put ⟨8, 0, 5, 4, 2, 0⟩)
  have a10 := Adds.trans a9 (Adds.put ⟨3, 2, 4, 3, 0, 0⟩)
  have a11 := Adds.trans a10 (adds_unless (t := t) 4 rel)
  have a12 := Adds.trans a11 (adds_old (t := t))
  have a13 := Adds.trans a12 (Adds.put ⟨5, 0, 5, 3, 0, 0⟩)
  have a14 := Adds.trans a13 (Adds.put ⟨1, 0, 4, 0, 0, 1⟩)
  have a15 := Adds.trans a14 (Adds.put ⟨3, 9, 4, 6, 0, 0⟩)
  have a16 := Adds.trans a15 (Adds.put ⟨4, 0, 3, 7, 0, t.base + 6⟩)
  have a17 := Adds.trans a16 (Adds.put ⟨3, 7, 3, 4, 0, 0⟩)
  have a18 := Adds.trans a17 (Adds.put ⟨5, 0, 7, 3, 0, t.base + 6⟩)
  exact a18
theorem ok_locks2 {rel : Int} (ok : TxOk t) (hp : p + 24 ≤ 262144) (hrel : InCode rel) : AllOk (xcode_locks2 t p rel) := by
  obtain ⟨⟨w1, w2⟩, ⟨l1, l2⟩, ⟨r1, r2⟩, ⟨a1, a2⟩, ⟨b1, b2⟩, ⟨t1, t2⟩, ⟨s1, s2⟩⟩ := id ok
  unfold xcode_locks2
  exact (AllOk.app (AllOk.app (AllOk.app (AllOk.app (AllOk.app (AllOk.app (ok_lock ok (by omega)) (.cons (ok_mem (by decide) ⟨by decide, by decide⟩ ⟨by decide, by decide⟩ (by unfold In64; omega)) (.cons (ok_move ⟨by decide, by decide⟩ ⟨by decide, by decide⟩) (.cons (ok_set ⟨by decide, by decide⟩ (by unfold In64; omega)) (.cons (ok_calc (by decide) ⟨by decide, by decide⟩ ⟨by decide, by decide⟩) .nil))))) (ok_unless ok (by omega) ⟨by decide, by decide⟩ hrel)) (.cons (ok_move ⟨by decide, by decide⟩ ⟨by decide, by decide⟩) (.cons (ok_set ⟨by decide, by decide⟩ (by unfold In64; omega)) (.cons (ok_cas) (.cons (ok_calc (by decide) ⟨by decide, by decide⟩ ⟨by decide, by decide⟩) .nil))))) (ok_unless ok (by omega) ⟨by decide, by decide⟩ hrel)) (ok_old ok (by omega))) (.cons (ok_mem (by decide) ⟨by decide, by decide⟩ ⟨by decide, by decide⟩ (by unfold In64; omega)) (.cons (ok_set ⟨by decide, by decide⟩ (by unfold In64; omega)) (.cons (ok_calc (by decide) ⟨by decide, by decide⟩ ⟨by decide, by decide⟩) (.cons (ok_mem (by decide) ⟨by decide, by decide⟩ ⟨by decide, by decide⟩ (by unfold In64; omega)) (.cons (ok_calc (by decide) ⟨by decide, by decide⟩ ⟨by decide, by decide⟩) (.cons (ok_mem (by decide) ⟨by decide, by decide⟩ ⟨by decide, by decide⟩ (by unfold In64; omega)) .nil)))))))
theorem adds_valid1 (rel : Nat) : Adds 22 c0 (c0.valid1 t rel) := by
  have a1 := Adds.label (c := c0)
  have a2 := Adds.trans a1 (adds_lock (t := t))
  have a3 := Adds.trans a2 (Adds.put ⟨4, 0, 2, 5, 0, 0⟩)
  have a4 := Adds.trans a3 (Adds.put ⟨2, 0, 4, 2, 0, 0⟩)
  have a5 := Adds.trans a4 (Adds.put ⟨1, 0, 3, 0, 0, 1⟩)
  have a6 := Adds.trans a5 (Adds.put ⟨3, 6, 4, 3, 0, 0⟩)
  have a7 := Adds.trans a6 (Adds.zero 4 ((c0).labs.length))
  have a8 := Adds.trans a7 (Adds.put ⟨1, 0, 3, 0, 0, (2 * t.th + 1)⟩)
  have a9 := Adds.trans a8 (Adds.put ⟨3, 2, 2, 3, 0, 0⟩)
  have a10 := Adds.trans a9 (adds_unless (t := t) 2 rel)
  have a11 := Adds.trans a10 (adds_old (t := t))
  have a12 := Adds.trans a11 (Adds.put ⟨4, 0, 2, 5, 0, 0⟩)
  have a13 := Adds.trans a12 (Adds.here ((c0).labs.length))
  have a14 := Adds.trans a13 (Adds.put ⟨1, 0, 3, 0, 0, 1⟩)
  have a15 := Adds.trans a14 (Adds.put ⟨3, 10, 2, 3, 0, 0⟩)
  have a16 := Adds.trans a15 (Adds.put ⟨4, 0, 4, 7, 0, t.base + 0⟩)
  have a17 := Adds.trans a16 (Adds.put ⟨3, 13, 4, 2, 0, 0⟩)
  have a18 := Adds.trans a17 (adds_unless (t := t) 4 rel)
  exact a18
theorem ok_valid1 {rel : Int} (ok : TxOk t) (hp : p + 22 ≤ 262144) (hrel : InCode rel) : AllOk (xcode_valid1 t p rel) := by
  obtain ⟨⟨w1, w2⟩, ⟨l1, l2⟩, ⟨r1, r2⟩, ⟨a1, a2⟩, ⟨b1, b2⟩, ⟨t1, t2⟩, ⟨s1, s2⟩⟩ := id ok
  unfold xcode_valid1
  exact (AllOk.app (AllOk.app (AllOk.app (AllOk.app (AllOk.app (ok_lock ok (by omega)) (.cons (ok_mem (by decide) ⟨by decide, by decide⟩ ⟨by decide, by decide⟩ (by unfold In64; omega)) (.cons (ok_move ⟨by decide, by decide⟩ ⟨by decide, by decide⟩) (.cons (ok_set ⟨by decide, by decide⟩ (by unfold In64; omega)) (.cons (ok_calc (by decide) ⟨by decide, by decide⟩ ⟨by decide, by decide⟩) (.cons (ok_zero ⟨by decide, by decide⟩ (by unfold InCode; omega)) (.cons (ok_set ⟨by decide, by decide⟩ (by unfold In64; omega)) (.cons (ok_calc (by decide) ⟨by decide, by decide⟩ ⟨by decide, by decide⟩) .nil)))))))) (ok_unless ok (by omega) ⟨by decide, by decide⟩ hrel)) (ok_old ok (by omega))) (.cons (ok_mem (by decide) ⟨by decide, by decide⟩ ⟨by decide, by decide⟩ (by unfold In64; omega)) (.cons (ok_set ⟨by decide, by decide⟩ (by unfold In64; omega)) (.cons (ok_calc (by decide) ⟨by decide, by decide⟩ ⟨by decide, by decide⟩) (.cons (ok_mem (by decide) ⟨by decide, by decide⟩ ⟨by decide, by decide⟩ (by unfold In64; omega)) (.cons (ok_calc (by decide) ⟨by decide, by decide⟩ ⟨by decide, by decide⟩) .nil)))))) (ok_unless ok (by omega) ⟨by decide, by decide⟩ hrel))
theorem adds_entries_l : Adds 14 c0 (c0.entries_l t) := by
  have a1 := Adds.label (c := c0)
  have a2 := Adds.trans a1 (Adds.label)
  have a3 := Adds.trans a2 (Adds.put ⟨4, 0, 6, 7, 0, t.base + 2⟩)
  have a4 := Adds.trans a3 (Adds.put ⟨1, 0, 5, 0, 0, t.log⟩)
  have a5 := Adds.trans a4 (Adds.here ((c0).labs.length))
  have a6 := Adds.trans a5 (Adds.zero 6 ((c0.label).labs.length))
  have a7 := Adds.trans a6 (adds_locks1 (t := t))
  have a8 := Adds.trans a7 (Adds.put ⟨1, 0, 4, 0, 0, 2⟩)
  have a9 := Adds.trans a8 (Adds.put ⟨3, 1, 5, 4, 0, 0⟩)
  have a10 := Adds.trans a9 (Adds.put ⟨1, 0, 4, 0, 0, 1⟩)
  have a11 := Adds.trans a10 (Adds.put ⟨3, 2, 6, 4, 0, 0⟩)
  have a12 := Adds.trans a11 (Adds.jump ((c0).labs.length))
  have a13 := Adds.trans a12 (Adds.here ((c0.label).labs.length))
  exact a13
theorem ok_entries_l (ok : TxOk t) (hp : p + 14 ≤ 262144) : AllOk (xcode_entries_l t p) := by
  obtain ⟨⟨w1, w2⟩, ⟨l1, l2⟩, ⟨r1, r2⟩, ⟨a1, a2⟩, ⟨b1, b2⟩, ⟨t1, t2⟩, ⟨s1, s2⟩⟩ := id ok
  unfold xcode_entries_l
  exact (AllOk.app (AllOk.app (.cons (ok_mem (by decide) ⟨by decide, by decide⟩ ⟨by decide, by decide⟩ (by unfold In64; omega)) (.cons (ok_set ⟨by decide, by decide⟩ (by unfold In64; omega)) (.cons (ok_zero ⟨by decide, by decide⟩ (by unfold InCode; omega)) .nil))) (ok_locks1 ok (by omega))) (.cons (ok_set ⟨by decide, by decide⟩ (by unfold In64; omega)) (.cons (ok_calc (by decide) ⟨by decide, by decide⟩ ⟨by decide, by decide⟩) (.cons (ok_set ⟨by decide, by decide⟩ (by unfold In64; omega)) (.cons (ok_calc (by decide) ⟨by decide, by decide⟩ ⟨by decide, by decide⟩) (.cons (ok_jump (by unfold InCode; omega)) .nil))))))
theorem adds_entries_c : Adds 11 c0 (c0.entries_c t) := by
  have a1 := Adds.label (c := c0)
  have a2 := Adds.trans a1 (Adds.label)
  have a3 := Adds.trans a2 (Adds.put ⟨4, 0, 6, 7, 0, t.base + 2⟩)
  have a4 := Adds.trans a3 (Adds.put ⟨1, 0, 5, 0, 0, t.log⟩)
  have a5 := Adds.trans a4 (Adds.here ((c0).labs.length))
  have a6 := Adds.trans a5 (Adds.zero 6 ((c0.label).labs.length))
  have a7 := Adds.trans a6 (adds_commit1 (t := t))
  have a8 := Adds.trans a7 (Adds.put ⟨1, 0, 4, 0, 0, 2⟩)
  have a9 := Adds.trans a8 (Adds.put ⟨3, 1, 5, 4, 0, 0⟩)
  have a10 := Adds.trans a9 (Adds.put ⟨1, 0, 4, 0, 0, 1⟩)
  have a11 := Adds.trans a10 (Adds.put ⟨3, 2, 6, 4, 0, 0⟩)
  have a12 := Adds.trans a11 (Adds.jump ((c0).labs.length))
  have a13 := Adds.trans a12 (Adds.here ((c0.label).labs.length))
  exact a13
theorem ok_entries_c (ok : TxOk t) (hp : p + 11 ≤ 262144) : AllOk (xcode_entries_c t p) := by
  obtain ⟨⟨w1, w2⟩, ⟨l1, l2⟩, ⟨r1, r2⟩, ⟨a1, a2⟩, ⟨b1, b2⟩, ⟨t1, t2⟩, ⟨s1, s2⟩⟩ := id ok
  unfold xcode_entries_c
  exact (AllOk.app (AllOk.app (.cons (ok_mem (by decide) ⟨by decide, by decide⟩ ⟨by decide, by decide⟩ (by unfold In64; omega)) (.cons (ok_set ⟨by decide, by decide⟩ (by unfold In64; omega)) (.cons (ok_zero ⟨by decide, by decide⟩ (by unfold InCode; omega)) .nil))) (ok_commit1 ok (by omega))) (.cons (ok_set ⟨by decide, by decide⟩ (by unfold In64; omega)) (.cons (ok_calc (by decide) ⟨by decide, by decide⟩ ⟨by decide, by decide⟩) (.cons (ok_set ⟨by decide, by decide⟩ (by unfold In64; omega)) (.cons (ok_calc (by decide) ⟨by decide, by decide⟩ ⟨by decide, by decide⟩) (.cons (ok_jump (by unfold InCode; omega)) .nil))))))
theorem adds_stripes_l (rel : Nat) : Adds 37 c0 (c0.stripes_l t rel) := by
  have a1 := Adds.label (c := c0)
  have a2 := Adds.trans a1 (Adds.label)
  have a3 := Adds.trans a2 (Adds.label)
  have a4 := Adds.trans a3 (Adds.put ⟨1, 0, 6, 0, 0, 0⟩)
  have a5 := Adds.trans a4 (Adds.here ((c0).labs.length))
  have a6 := Adds.trans a5 (Adds.put ⟨2, 0, 4, 6, 0, 0⟩)
  have a7 := Adds.trans a6 (Adds.put ⟨1, 0, 3, 0, 0, 16⟩)
  have a8 := Adds.trans a7 (Adds.put ⟨3, 13, 4, 3, 0, 0⟩)
  have a9 := Adds.trans a8 (Adds.zero 4 ((c0.label.label).labs.length))
  have a10 := Adds.trans a9 (Adds.put ⟨4, 0, 4, 7, 0, t.base + 7⟩)
  have a11 := Adds.trans a10 (Adds.put ⟨3, 10, 4, 6, 0, 0⟩)
  have a12 := Adds.trans a11 (Adds.put ⟨1, 0, 3, 0, 0, 1⟩)
  have a13 := Adds.trans a12 (Adds.put ⟨3, 6, 4, 3, 0, 0⟩)
  have a14 := Adds.trans a13 (Adds.zero 4 ((c0.label).labs.length))
  have a15 := Adds.trans a14 (adds_locks2 (t := t) rel)
  have a16 := Adds.trans a15 (Adds.here ((c0.label).labs.length))
  have a17 := Adds.trans a16 (Adds.put ⟨1, 0, 3, 0, 0, 1⟩)
  have a18 := Adds.trans a17 (Adds.put ⟨3, 1, 6, 3, 0, 0⟩)
  have a19 := Adds.trans a18 (Adds.jump ((c0).labs.length))
  have a20 := Adds.trans a19 (Adds.here ((c0.label.label).labs.length))
  exact a20
theorem ok_stripes_l {rel : Int} (ok : TxOk t) (hp : p + 37 ≤ 262144) (hrel : InCode rel) : AllOk (xcode_stripes_l t p rel) := by
  obtain ⟨⟨w1, w2⟩, ⟨l1, l2⟩, ⟨r1, r2⟩, ⟨a1, a2⟩, ⟨b1, b2⟩, ⟨t1, t2⟩, ⟨s1, s2⟩⟩ := id ok
  unfold xcode_stripes_l
  exact (AllOk.app (AllOk.app (.cons (ok_set ⟨by decide, by decide⟩ (by unfold In64; omega)) (.cons (ok_move ⟨by decide, by decide⟩ ⟨by decide, by decide⟩) (.cons (ok_set ⟨by decide, by decide⟩ (by unfold In64; omega)) (.cons (ok_calc (by decide) ⟨by decide, by decide⟩ ⟨by decide, by decide⟩) (.cons (ok_zero ⟨by decide, by decide⟩ (by unfold InCode; omega)) (.cons (ok_mem (by decide) ⟨by decide, by decide⟩ ⟨by decide, by decide⟩ (by unfold In64; omega)) (.cons (ok_calc (by decide) ⟨by decide, by decide⟩ ⟨by decide, by decide⟩) (.cons (ok_set ⟨by decide, by decide⟩ (by unfold In64; omega)) (.cons (ok_calc (by decide) ⟨by decide, by decide⟩ ⟨by decide, by decide⟩) (.cons (ok_zero ⟨by decide, by decide⟩ (by unfold InCode; omega)) .nil)))))))))) (ok_locks2 ok (by omega) hrel)) (.cons (ok_set ⟨by decide, by decide⟩ (by unfold In64; omega)) (.cons (ok_calc (by decide) ⟨by decide, by decide⟩ ⟨by decide, by decide⟩) (.cons (ok_jump (by unfold InCode; omega)) .nil))))
theorem adds_stripes_v (rel : Nat) : Adds 35 c0 (c0.stripes_v t rel) := by
  have a1 := Adds.label (c := c0)
  have a2 := Adds.trans a1 (Adds.label)
  have a3 := Adds.trans a2 (Adds.label)
  have a4 := Adds.trans a3 (Adds.put ⟨1, 0, 6, 0, 0, 0⟩)
  have a5 := Adds.trans a4 (Adds.here ((c0).labs.length))
  have a6 := Adds.trans a5 (Adds.put ⟨2, 0, 4, 6, 0, 0⟩)
  have a7 := Adds.trans a6 (Adds.put ⟨1, 0, 3, 0, 0, 16⟩)
  have a8 := Adds.trans a7 (Adds.put ⟨3, 13, 4, 3, 0, 0⟩)
  have a9 := Adds.trans a8 (Adds.zero 4 ((c0.label.label).labs.length))
  have a10 := Adds.trans a9 (Adds.put ⟨4, 0, 4, 7, 0, t.base + 1⟩)
  have a11 := Adds.trans a10 (Adds.put ⟨3, 10, 4, 6, 0, 0⟩)
  have a12 := Adds.trans a11 (Adds.put ⟨1, 0, 3, 0, 0, 1⟩)
  have a13 := Adds.trans a12 (Adds.put ⟨3, 6, 4, 3, 0, 0⟩)
  have a14 := Adds.trans a13 (Adds.zero 4 ((c0.label).labs.length))
  have a15 := Adds.trans a14 (adds_valid1 (t := t) rel)
  have a16 := Adds.trans a15 (Adds.here ((c0.label).labs.length))
  have a17 := Adds.trans a16 (Adds.put ⟨1, 0, 3, 0, 0, 1⟩)
  have a18 := Adds.trans a17 (Adds.put ⟨3, 1, 6, 3, 0, 0⟩)
  have a19 := Adds.trans a18 (Adds.jump ((c0).labs.length))
  have a20 := Adds.trans a19 (Adds.here ((c0.label.label).labs.length))
  exact a20
theorem ok_stripes_v {rel : Int} (ok : TxOk t) (hp : p + 35 ≤ 262144) (hrel : InCode rel) : AllOk (xcode_stripes_v t p rel) := by
  obtain ⟨⟨w1, w2⟩, ⟨l1, l2⟩, ⟨r1, r2⟩, ⟨a1, a2⟩, ⟨b1, b2⟩, ⟨t1, t2⟩, ⟨s1, s2⟩⟩ := id ok
  unfold xcode_stripes_v
  exact (AllOk.app (AllOk.app (.cons (ok_set ⟨by decide, by decide⟩ (by unfold In64; omega)) (.cons (ok_move ⟨by decide, by decide⟩ ⟨by decide, by decide⟩) (.cons (ok_set ⟨by decide, by decide⟩ (by unfold In64; omega)) (.cons (ok_calc (by decide) ⟨by decide, by decide⟩ ⟨by decide, by decide⟩) (.cons (ok_zero ⟨by decide, by decide⟩ (by unfold InCode; omega)) (.cons (ok_mem (by decide) ⟨by decide, by decide⟩ ⟨by decide, by decide⟩ (by unfold In64; omega)) (.cons (ok_calc (by decide) ⟨by decide, by decide⟩ ⟨by decide, by decide⟩) (.cons (ok_set ⟨by decide, by decide⟩ (by unfold In64; omega)) (.cons (ok_calc (by decide) ⟨by decide, by decide⟩ ⟨by decide, by decide⟩) (.cons (ok_zero ⟨by decide, by decide⟩ (by unfold InCode; omega)) .nil)))))))))) (ok_valid1 ok (by omega) hrel)) (.cons (ok_set ⟨by decide, by decide⟩ (by unfold In64; omega)) (.cons (ok_calc (by decide) ⟨by decide, by decide⟩ ⟨by decide, by decide⟩) (.cons (ok_jump (by unfold InCode; omega)) .nil))))
theorem adds_stripes_u : Adds 17 c0 (c0.stripes_u t) := by
  have a1 := Adds.label (c := c0)
  have a2 := Adds.trans a1 (Adds.label)
  have a3 := Adds.trans a2 (Adds.label)
  have a4 := Adds.trans a3 (Adds.put ⟨1, 0, 6, 0, 0, 0⟩)
  have a5 := Adds.trans a4 (Adds.here ((c0).labs.length))
  have a6 := Adds.trans a5 (Adds.put ⟨2, 0, 4, 6, 0, 0⟩)
  have a7 := Adds.trans a6 (Adds.put ⟨1, 0, 3, 0, 0, 16⟩)
  have a8 := Adds.trans a7 (Adds.put ⟨3, 13, 4, 3, 0, 0⟩)
  have a9 := Adds.trans a8 (Adds.zero 4 ((c0.label.label).labs.length))
  have a10 := Adds.trans a9 (Adds.put ⟨4, 0, 4, 7, 0, t.base + 6⟩)
  have a11 := Adds.trans a10 (Adds.put ⟨3, 10, 4, 6, 0, 0⟩)
  have a12 := Adds.trans a11 (Adds.put ⟨1, 0, 3, 0, 0, 1⟩)
  have a13 := Adds.trans a12 (Adds.put ⟨3, 6, 4, 3, 0, 0⟩)
  have a14 := Adds.trans a13 (Adds.zero 4 ((c0.label).labs.length))
  have a15 := Adds.trans a14 (adds_commit2 (t := t))
  have a16 := Adds.trans a15 (Adds.here ((c0.label).labs.length))
  have a17 := Adds.trans a16 (Adds.put ⟨1, 0, 3, 0, 0, 1⟩)
  have a18 := Adds.trans a17 (Adds.put ⟨3, 1, 6, 3, 0, 0⟩)
  have a19 := Adds.trans a18 (Adds.jump ((c0).labs.length))
  have a20 := Adds.trans a19 (Adds.here ((c0.label.label).labs.length))
  exact a20
theorem ok_stripes_u (ok : TxOk t) (hp : p + 17 ≤ 262144) : AllOk (xcode_stripes_u t p) := by
  obtain ⟨⟨w1, w2⟩, ⟨l1, l2⟩, ⟨r1, r2⟩, ⟨a1, a2⟩, ⟨b1, b2⟩, ⟨t1, t2⟩, ⟨s1, s2⟩⟩ := id ok
  unfold xcode_stripes_u
  exact (AllOk.app (AllOk.app (.cons (ok_set ⟨by decide, by decide⟩ (by unfold In64; omega)) (.cons (ok_move ⟨by decide, by decide⟩ ⟨by decide, by decide⟩) (.cons (ok_set ⟨by decide, by decide⟩ (by unfold In64; omega)) (.cons (ok_calc (by decide) ⟨by decide, by decide⟩ ⟨by decide, by decide⟩) (.cons (ok_zero ⟨by decide, by decide⟩ (by unfold InCode; omega)) (.cons (ok_mem (by decide) ⟨by decide, by decide⟩ ⟨by decide, by decide⟩ (by unfold In64; omega)) (.cons (ok_calc (by decide) ⟨by decide, by decide⟩ ⟨by decide, by decide⟩) (.cons (ok_set ⟨by decide, by decide⟩ (by unfold In64; omega)) (.cons (ok_calc (by decide) ⟨by decide, by decide⟩ ⟨by decide, by decide⟩) (.cons (ok_zero ⟨by decide, by decide⟩ (by unfold InCode; omega)) .nil)))))))))) (ok_commit2 ok (by omega))) (.cons (ok_set ⟨by decide, by decide⟩ (by unfold In64; omega)) (.cons (ok_calc (by decide) ⟨by decide, by decide⟩ ⟨by decide, by decide⟩) (.cons (ok_jump (by unfold InCode; omega)) .nil))))
theorem adds_stripes_r : Adds 21 c0 (c0.stripes_r t) := by
  have a1 := Adds.label (c := c0)
  have a2 := Adds.trans a1 (Adds.label)
  have a3 := Adds.trans a2 (Adds.label)
  have a4 := Adds.trans a3 (Adds.put ⟨1, 0, 6, 0, 0, 0⟩)
  have a5 := Adds.trans a4 (Adds.here ((c0).labs.length))
  have a6 := Adds.trans a5 (Adds.put ⟨2, 0, 4, 6, 0, 0⟩)
  have a7 := Adds.trans a6 (Adds.put ⟨1, 0, 3, 0, 0, 16⟩)
  have a8 := Adds.trans a7 (Adds.put ⟨3, 13, 4, 3, 0, 0⟩)
  have a9 := Adds.trans a8 (Adds.zero 4 ((c0.label.label).labs.length))
  have a10 := Adds.trans a9 (Adds.put ⟨4, 0, 4, 7, 0, t.base + 6⟩)
  have a11 := Adds.trans a10 (Adds.put ⟨3, 10, 4, 6, 0, 0⟩)
  have a12 := Adds.trans a11 (Adds.put ⟨1, 0, 3, 0, 0, 1⟩)
  have a13 := Adds.trans a12 (Adds.put ⟨3, 6, 4, 3, 0, 0⟩)
  have a14 := Adds.trans a13 (Adds.zero 4 ((c0.label).labs.length))
  have a15 := Adds.trans a14 (adds_commit3 (t := t))
  have a16 := Adds.trans a15 (Adds.here ((c0.label).labs.length))
  have a17 := Adds.trans a16 (Adds.put ⟨1, 0, 3, 0, 0, 1⟩)
  have a18 := Adds.trans a17 (Adds.put ⟨3, 1, 6, 3, 0, 0⟩)
  have a19 := Adds.trans a18 (Adds.jump ((c0).labs.length))
  have a20 := Adds.trans a19 (Adds.here ((c0.label.label).labs.length))
  exact a20
theorem ok_stripes_r (ok : TxOk t) (hp : p + 21 ≤ 262144) : AllOk (xcode_stripes_r t p) := by
  obtain ⟨⟨w1, w2⟩, ⟨l1, l2⟩, ⟨r1, r2⟩, ⟨a1, a2⟩, ⟨b1, b2⟩, ⟨t1, t2⟩, ⟨s1, s2⟩⟩ := id ok
  unfold xcode_stripes_r
  exact (AllOk.app (AllOk.app (.cons (ok_set ⟨by decide, by decide⟩ (by unfold In64; omega)) (.cons (ok_move ⟨by decide, by decide⟩ ⟨by decide, by decide⟩) (.cons (ok_set ⟨by decide, by decide⟩ (by unfold In64; omega)) (.cons (ok_calc (by decide) ⟨by decide, by decide⟩ ⟨by decide, by decide⟩) (.cons (ok_zero ⟨by decide, by decide⟩ (by unfold InCode; omega)) (.cons (ok_mem (by decide) ⟨by decide, by decide⟩ ⟨by decide, by decide⟩ (by unfold In64; omega)) (.cons (ok_calc (by decide) ⟨by decide, by decide⟩ ⟨by decide, by decide⟩) (.cons (ok_set ⟨by decide, by decide⟩ (by unfold In64; omega)) (.cons (ok_calc (by decide) ⟨by decide, by decide⟩ ⟨by decide, by decide⟩) (.cons (ok_zero ⟨by decide, by decide⟩ (by unfold InCode; omega)) .nil)))))))))) (ok_commit3 ok (by omega))) (.cons (ok_set ⟨by decide, by decide⟩ (by unfold In64; omega)) (.cons (ok_calc (by decide) ⟨by decide, by decide⟩ ⟨by decide, by decide⟩) (.cons (ok_jump (by unfold InCode; omega)) .nil))))
theorem adds_locks (rel : Nat) : Adds 53 c0 (c0.locks t rel) := by
  have a1 := Adds.put (c := c0) ⟨1, 0, 2, 0, 0, 0⟩
  have a2 := Adds.trans a1 (adds_entries_l (t := t))
  have a3 := Adds.trans a2 (Adds.put ⟨5, 0, 7, 2, 0, t.base + 7⟩)
  have a4 := Adds.trans a3 (adds_stripes_l (t := t) rel)
  exact a4
theorem ok_locks {rel : Int} (ok : TxOk t) (hp : p + 53 ≤ 262144) (hrel : InCode rel) : AllOk (xcode_locks t p rel) := by
  obtain ⟨⟨w1, w2⟩, ⟨l1, l2⟩, ⟨r1, r2⟩, ⟨a1, a2⟩, ⟨b1, b2⟩, ⟨t1, t2⟩, ⟨s1, s2⟩⟩ := id ok
  unfold xcode_locks
  exact (AllOk.app (AllOk.app (AllOk.app (.cons (ok_set ⟨by decide, by decide⟩ (by unfold In64; omega)) .nil) (ok_entries_l ok (by omega))) (.cons (ok_mem (by decide) ⟨by decide, by decide⟩ ⟨by decide, by decide⟩ (by unfold In64; omega)) .nil)) (ok_stripes_l ok (by omega) hrel))
theorem adds_validate (rel : Nat) : Adds 35 c0 (c0.validate t rel) := by
  have a1 := adds_stripes_v (c0 := c0) (t := t) rel
  exact a1
theorem ok_validate {rel : Int} (ok : TxOk t) (hp : p + 35 ≤ 262144) (hrel : InCode rel) : AllOk (xcode_validate t p rel) := by
  obtain ⟨⟨w1, w2⟩, ⟨l1, l2⟩, ⟨r1, r2⟩, ⟨a1, a2⟩, ⟨b1, b2⟩, ⟨t1, t2⟩, ⟨s1, s2⟩⟩ := id ok
  unfold xcode_validate
  exact (ok_stripes_v ok (by omega) hrel)
theorem adds_commit (abort : Nat) : Adds 169 c0 (c0.commit t abort) := by
  have a1 := Adds.label (c := c0)
  have a2 := Adds.trans a1 (Adds.label)
  have a3 := Adds.trans a2 (Adds.label)
  have a4 := Adds.trans a3 (Adds.label)
  have a5 := Adds.trans a4 (Adds.put ⟨4, 0, 0, 7, 0, t.base + 2⟩)
  have a6 := Adds.trans a5 (Adds.zero 0 ((c0.label).labs.length))
  have a7 := Adds.trans a6 (adds_locks (t := t) ((c0).labs.length))
  have a8 := Adds.trans a7 (Adds.put ⟨1, 0, 1, 0, 0, 1⟩)
  have a9 := Adds.trans a8 (Adds.put ⟨9, 0, 7, 1, 0, t.words + 1⟩)
  have a10 := Adds.trans a9 (Adds.put ⟨1, 0, 4, 0, 0, 1⟩)
  have a11 := Adds.trans a10 (Adds.put ⟨3, 1, 1, 4, 0, 0⟩)
  have a12 := Adds.trans a11 (Adds.put ⟨5, 0, 7, 1, 0, t.base + 7⟩)
  have a13 := Adds.trans a12 (Adds.put ⟨2, 0, 2, 1, 0, 0⟩)
  have a14 := Adds.trans a13 (Adds.put ⟨1, 0, 4, 0, 0, 2305843009213693952⟩)
  have a15 := Adds.trans a14 (Adds.put ⟨3, 13, 2, 4, 0, 0⟩)
  have a16 := Adds.trans a15 (adds_unless (t := t) 2 ((c0.label.label.label).labs.length))
  have a17 := Adds.trans a16 (Adds.put ⟨13, 0, 0, 0, 0, 7⟩)
  have a18 := Adds.trans a17 (Adds.here ((c0.label.label.label).labs.length))
  have a19 := Adds.trans a18 (adds_validate (t := t) ((c0).labs.length))
  have a20 := Adds.trans a19 (Adds.put ⟨4, 0, 1, 7, 0, t.base + 7⟩)
  have a21 := Adds.trans a20 (Adds.put ⟨1, 0, 2, 0, 0, 1⟩)
  have a22 := Adds.trans a21 (Adds.put ⟨12, 0, 1, 2, 0, 7⟩)
  have a23 := Adds.trans a22 (adds_entries_c (t := t))
  have a24 := Adds.trans a23 (Adds.put ⟨4, 0, 1, 7, 0, t.base + 7⟩)
  have a25 := Adds.trans a24 (Adds.put ⟨3, 1, 1, 1, 0, 0⟩)
  have a26 := Adds.trans a25 (adds_stripes_u (t := t))
  have a27 := Adds.trans a26 (Adds.jump ((c0.label.label).labs.length))
  have a28 := Adds.trans a27 (Adds.here ((c0).labs.length))
  have a29 := Adds.trans a28 (adds_stripes_r (t := t))
  have a30 := Adds.trans a29 (Adds.jump (abort))
  have a31 := Adds.trans a30 (Adds.here ((c0.label).labs.length))
  have a32 := Adds.trans a31 (Adds.put ⟨4, 0, 1, 7, 0, t.base + 0⟩)
  have a33 := Adds.trans a32 (Adds.put ⟨12, 0, 1, 7, 0, 7⟩)
  have a34 := Adds.trans a33 (Adds.here ((c0.label.label).labs.length))
  have a35 := Adds.trans a34 (adds_tell (t := t))
  exact a35
theorem ok_commit {abort : Int} (ok : TxOk t) (hp : p + 169 ≤ 262144) (habort : InCode abort) : AllOk (xcode_commit t p abort) := by
  obtain ⟨⟨w1, w2⟩, ⟨l1, l2⟩, ⟨r1, r2⟩, ⟨a1, a2⟩, ⟨b1, b2⟩, ⟨t1, t2⟩, ⟨s1, s2⟩⟩ := id ok
  unfold xcode_commit
  exact (AllOk.app (AllOk.app (AllOk.app (AllOk.app (AllOk.app (AllOk.app (AllOk.app (AllOk.app (AllOk.app (AllOk.app (AllOk.app (AllOk.app (AllOk.app (.cons (ok_mem (by decide) ⟨by decide, by decide⟩ ⟨by decide, by decide⟩ (by unfold In64; omega)) (.cons (ok_zero ⟨by decide, by decide⟩ (by unfold InCode; omega)) .nil)) (ok_locks ok (by omega) (by unfold InCode; omega))) (.cons (ok_set ⟨by decide, by decide⟩ (by unfold In64; omega)) (.cons (ok_mem (by decide) ⟨by decide, by decide⟩ ⟨by decide, by decide⟩ (by unfold In64; omega)) (.cons (ok_set ⟨by decide, by decide⟩ (by unfold In64; omega)) (.cons (ok_calc (by decide) ⟨by decide, by decide⟩ ⟨by decide, by decide⟩) (.cons (ok_mem (by decide) ⟨by decide, by decide⟩ ⟨by decide, by decide⟩ (by unfold In64; omega)) (.cons (ok_move ⟨by decide, by decide⟩ ⟨by decide, by decide⟩) (.cons (ok_set ⟨by decide, by decide⟩ (by unfold In64; omega)) (.cons (ok_calc (by decide) ⟨by decide, by decide⟩ ⟨by decide, by decide⟩) .nil))))))))) (ok_unless ok (by omega) ⟨by decide, by decide⟩ (by unfold InCode; omega))) (.cons (ok_trap (by decide)) .nil)) (ok_validate ok (by omega) (by unfold InCode; omega))) (.cons (ok_mem (by decide) ⟨by decide, by decide⟩ ⟨by decide, by decide⟩ (by unfold In64; omega)) (.cons (ok_set ⟨by decide, by decide⟩ (by unfold In64; omega)) (.cons (ok_note (by decide) ⟨by decide, by decide⟩ ⟨by decide, by decide⟩) .nil)))) (ok_entries_c ok (by omega))) (.cons (ok_mem (by decide) ⟨by decide, by decide⟩ ⟨by decide, by decide⟩ (by unfold In64; omega)) (.cons (ok_calc (by decide) ⟨by decide, by decide⟩ ⟨by decide, by decide⟩) .nil))) (ok_stripes_u ok (by omega))) (.cons (ok_jump (by unfold InCode; omega)) .nil)) (ok_stripes_r ok (by omega))) (.cons (ok_jump habort) (.cons (ok_mem (by decide) ⟨by decide, by decide⟩ ⟨by decide, by decide⟩ (by unfold In64; omega)) (.cons (ok_note (by decide) ⟨by decide, by decide⟩ ⟨by decide, by decide⟩) .nil)))) (ok_tell ok (by omega)))
theorem adds_begin_ : Adds 8 c0 (c0.begin_ t) := by
  have a1 := Adds.put (c := c0) ⟨4, 0, 1, 7, 0, t.base + 4⟩
  have a2 := Adds.trans a1 (Adds.put ⟨5, 0, 7, 1, 0, t.base + 5⟩)
  have a3 := Adds.trans a2 (Adds.put ⟨5, 0, 7, 7, 0, t.base + 1⟩)
  have a4 := Adds.trans a3 (Adds.put ⟨5, 0, 7, 7, 0, t.base + 2⟩)
  have a5 := Adds.trans a4 (Adds.put ⟨5, 0, 7, 7, 0, t.base + 3⟩)
  have a6 := Adds.trans a5 (Adds.put ⟨5, 0, 7, 7, 0, t.base + 6⟩)
  have a7 := Adds.trans a6 (Adds.put ⟨15, 0, 0, 7, 0, t.words + 1⟩)
  have a8 := Adds.trans a7 (Adds.put ⟨5, 0, 7, 0, 0, t.base + 0⟩)
  exact a8
theorem ok_begin_ (ok : TxOk t) (hp : p + 8 ≤ 262144) : AllOk (xcode_begin_ t p) := by
  obtain ⟨⟨w1, w2⟩, ⟨l1, l2⟩, ⟨r1, r2⟩, ⟨a1, a2⟩, ⟨b1, b2⟩, ⟨t1, t2⟩, ⟨s1, s2⟩⟩ := id ok
  unfold xcode_begin_
  exact (.cons (ok_mem (by decide) ⟨by decide, by decide⟩ ⟨by decide, by decide⟩ (by unfold In64; omega)) (.cons (ok_mem (by decide) ⟨by decide, by decide⟩ ⟨by decide, by decide⟩ (by unfold In64; omega)) (.cons (ok_mem (by decide) ⟨by decide, by decide⟩ ⟨by decide, by decide⟩ (by unfold In64; omega)) (.cons (ok_mem (by decide) ⟨by decide, by decide⟩ ⟨by decide, by decide⟩ (by unfold In64; omega)) (.cons (ok_mem (by decide) ⟨by decide, by decide⟩ ⟨by decide, by decide⟩ (by unfold In64; omega)) (.cons (ok_mem (by decide) ⟨by decide, by decide⟩ ⟨by decide, by decide⟩ (by unfold In64; omega)) (.cons (ok_mem (by decide) ⟨by decide, by decide⟩ ⟨by decide, by decide⟩ (by unfold In64; omega)) (.cons (ok_mem (by decide) ⟨by decide, by decide⟩ ⟨by decide, by decide⟩ (by unfold In64; omega)) .nil))))))))
theorem adds_once_r (oth : Int) (oat : Int) (ov : Int) (abort : Nat) : Adds 48 c0 (c0.once_r t oth oat ov abort) := by
  have a1 := Adds.put (c := c0) ⟨1, 0, 1, 0, 0, oat⟩
  have a2 := Adds.trans a1 (adds_read (t := t) abort)
  have a3 := Adds.trans a2 (Adds.put ⟨4, 0, 1, 7, 0, t.sum⟩)
  have a4 := Adds.trans a3 (Adds.put ⟨3, 1, 1, 2, 0, 0⟩)
  have a5 := Adds.trans a4 (Adds.put ⟨5, 0, 7, 1, 0, t.sum⟩)
  exact a5
theorem ok_once_r {oth : Int} {oat : Int} {ov : Int} {abort : Int} (ok : TxOk t) (hp : p + 48 ≤ 262144) (hoth : In64 oth) (hoat : In64 oat) (hov : In64 ov) (habort : InCode abort) : AllOk (xcode_once_r t p oth oat ov abort) := by
  obtain ⟨⟨w1, w2⟩, ⟨l1, l2⟩, ⟨r1, r2⟩, ⟨a1, a2⟩, ⟨b1, b2⟩, ⟨t1, t2⟩, ⟨s1, s2⟩⟩ := id ok
  have koth := hoth
  unfold In64 at koth
  have koat := hoat
  unfold In64 at koat
  have kov := hov
  unfold In64 at kov
  unfold xcode_once_r
  exact (AllOk.app (AllOk.app (.cons (ok_set ⟨by decide, by decide⟩ (by unfold In64; omega)) .nil) (ok_read ok (by omega) habort)) (.cons (ok_mem (by decide) ⟨by decide, by decide⟩ ⟨by decide, by decide⟩ (by unfold In64; omega)) (.cons (ok_calc (by decide) ⟨by decide, by decide⟩ ⟨by decide, by decide⟩) (.cons (ok_mem (by decide) ⟨by decide, by decide⟩ ⟨by decide, by decide⟩ (by unfold In64; omega)) .nil))))
theorem adds_once_w (oth : Int) (oat : Int) (ov : Int) (abort : Nat) : Adds 33 c0 (c0.once_w t oth oat ov abort) := by
  have a1 := Adds.put (c := c0) ⟨1, 0, 1, 0, 0, oat⟩
  have a2 := Adds.trans a1 (Adds.put ⟨4, 0, 2, 7, 0, t.sum⟩)
  have a3 := Adds.trans a2 (Adds.put ⟨1, 0, 3, 0, 0, ov⟩)
  have a4 := Adds.trans a3 (Adds.put ⟨3, 1, 2, 3, 0, 0⟩)
  have a5 := Adds.trans a4 (adds_write (t := t))
  exact a5
theorem ok_once_w {oth : Int} {oat : Int} {ov : Int} {abort : Int} (ok : TxOk t) (hp : p + 33 ≤ 262144) (hoth : In64 oth) (hoat : In64 oat) (hov : In64 ov) (habort : InCode abort) : AllOk (xcode_once_w t p oth oat ov abort) := by
  obtain ⟨⟨w1, w2⟩, ⟨l1, l2⟩, ⟨r1, r2⟩, ⟨a1, a2⟩, ⟨b1, b2⟩, ⟨t1, t2⟩, ⟨s1, s2⟩⟩ := id ok
  have koth := hoth
  unfold In64 at koth
  have koat := hoat
  unfold In64 at koat
  have kov := hov
  unfold In64 at kov
  unfold xcode_once_w
  exact (AllOk.app (.cons (ok_set ⟨by decide, by decide⟩ (by unfold In64; omega)) (.cons (ok_mem (by decide) ⟨by decide, by decide⟩ ⟨by decide, by decide⟩ (by unfold In64; omega)) (.cons (ok_set ⟨by decide, by decide⟩ (by unfold In64; omega)) (.cons (ok_calc (by decide) ⟨by decide, by decide⟩ ⟨by decide, by decide⟩) .nil)))) (ok_write ok (by omega)))
end

section
variable {V : Nat → Int} {c c0 c1 c2 : Cd} {p q n m : Nat} {ls : List Int} {R : List OpD} {t : TxC}

/-! ### one thing -/
def nOnce (o : Tx) : Nat := if o.kind = 2 then 48 else 33
def mOnce (o : Tx) : Nat := if o.kind = 2 then 7 else 6
def code_once (t : TxC) (V : Nat → Int) (q : Nat) (o : Tx) (abort : Nat) : List OpD := if o.kind = 2 then code_once_r t V q o.th o.at_ o.v abort else code_once_w t V q o.th o.at_ o.v abort
def labs_once (p : Nat) (o : Tx) : List Int := if o.kind = 2 then labs_once_r p else labs_once_w p
def xcode_once (t : TxC) (p : Nat) (o : Tx) (A : Int) : List OpD := if o.kind = 2 then xcode_once_r t p o.th o.at_ o.v A else xcode_once_w t p o.th o.at_ o.v A
theorem labs_once_len (p : Nat) (o : Tx) : (labs_once p o).length = mOnce o := by unfold labs_once mOnce; split; exact labs_once_r_len p; exact labs_once_w_len p
theorem xcode_once_len (t : TxC) (p : Nat) (o : Tx) (A : Int) : (xcode_once t p o A).length = nOnce o := by unfold xcode_once nOnce; split; exact xcode_once_r_len _ _ _ _ _ _; exact xcode_once_w_len _ _ _ _ _ _
theorem at_once (h : At V c0 p ls R) (o : Tx) (abort : Nat) (hp : p + nOnce o ≤ 262144) : At V (c0.once t o abort) (p + nOnce o) (ls ++ labs_once p o) (R ++ code_once t V ls.length o abort) := by
  unfold Cd.once nOnce labs_once code_once at *
  split
  · rename_i hk
    rw [if_pos hk] at hp
    exact at_once_r h o.th o.at_ o.v abort hp
  · rename_i hk
    rw [if_neg hk] at hp
    exact at_once_w h o.th o.at_ o.v abort hp
theorem x_once (o : Tx) (abort : Nat) (h : Vseg V q (labs_once p o)) : code_once t V q o abort = xcode_once t p o (V abort) := by
  unfold code_once xcode_once labs_once at *
  split
  · rename_i hk
    rw [if_pos hk] at h
    exact x_once_r _ _ _ _ h
  · rename_i hk
    rw [if_neg hk] at h
    exact x_once_w _ _ _ _ h
theorem adds_once (o : Tx) (abort : Nat) : Adds (nOnce o) c0 (c0.once t o abort) := by
  unfold Cd.once nOnce
  split
  · exact adds_once_r _ _ _ _
  · exact adds_once_w _ _ _ _
/-- a thing whose numbers are numbers -/
def TxWf (o : Tx) : Prop := In64 o.at_ ∧ In64 o.v
theorem ok_once {o : Tx} {A : Int} (ok : TxOk t) (hp : p + nOnce o ≤ 262144) (hw : TxWf o) (hA : InCode A) : AllOk (xcode_once t p o A) := by
  unfold xcode_once nOnce at *
  split
  · rename_i hk
    rw [if_pos hk] at hp
    unfold xcode_once_r
    obtain ⟨⟨w1, w2⟩, ⟨l1, l2⟩, ⟨r1, r2⟩, ⟨a1, a2⟩, ⟨b1, b2⟩, ⟨t1, t2⟩, ⟨s1, s2⟩⟩ := id ok
    exact AllOk.app (AllOk.app (.cons (ok_set ⟨by decide, by decide⟩ hw.1) .nil) (ok_read ok (by omega) hA)) (.cons (ok_mem (by decide) ⟨by decide, by decide⟩ ⟨by decide, by decide⟩ (by unfold In64; omega)) (.cons (ok_calc (by decide) ⟨by decide, by decide⟩ ⟨by decide, by decide⟩) (.cons (ok_mem (by decide) ⟨by decide, by decide⟩ ⟨by decide, by decide⟩ (by unfold In64; omega)) .nil)))
  · rename_i hk
    rw [if_neg hk] at hp
    unfold xcode_once_w
    obtain ⟨⟨w1, w2⟩, ⟨l1, l2⟩, ⟨r1, r2⟩, ⟨a1, a2⟩, ⟨b1, b2⟩, ⟨t1, t2⟩, ⟨s1, s2⟩⟩ := id ok
    exact AllOk.app (.cons (ok_set ⟨by decide, by decide⟩ hw.1) (.cons (ok_mem (by decide) ⟨by decide, by decide⟩ ⟨by decide, by decide⟩ (by unfold In64; omega)) (.cons (ok_set ⟨by decide, by decide⟩ hw.2) (.cons (ok_calc (by decide) ⟨by decide, by decide⟩ ⟨by decide, by decide⟩) .nil)))) (ok_write ok (by omega))

/-! ### one behind the other -/
def opsLen (l : List Tx) : Nat := (l.map nOnce).sum
def opsLab (l : List Tx) : Nat := (l.map mOnce).sum
theorem opsLen_cons (o : Tx) (l : List Tx) : opsLen (o :: l) = nOnce o + opsLen l := by simp [opsLen]
theorem opsLab_cons (o : Tx) (l : List Tx) : opsLab (o :: l) = mOnce o + opsLab l := by simp [opsLab]
def code_ops (t : TxC) (V : Nat → Int) : Nat → List Tx → Nat → List OpD
  | _, [], _ => []
  | q, o :: l, A => code_once t V q o A ++ code_ops t V (q + mOnce o) l A
def labs_ops : Nat → List Tx → List Int
  | _, [] => []
  | p, o :: l => labs_once p o ++ labs_ops (p + nOnce o) l
def xcode_ops (t : TxC) : Nat → List Tx → Int → List OpD
  | _, [], _ => []
  | p, o :: l, A => xcode_once t p o A ++ xcode_ops t (p + nOnce o) l A
theorem labs_ops_len (l : List Tx) : ∀ p, (labs_ops p l).length = opsLab l := by
  induction l with
  | nil => intro p; rfl
  | cons o l ih => intro p; rw [labs_ops, List.length_append, labs_once_len, ih, opsLab_cons]
theorem xcode_ops_len (t : TxC) (A : Int) (l : List Tx) : ∀ p, (xcode_ops t p l A).length = opsLen l := by
  induction l with
  | nil => intro p; rfl
  | cons o l ih => intro p; rw [xcode_ops, List.length_append, xcode_once_len, ih, opsLen_cons]
theorem at_ops (abort : Nat) (l : List Tx) : ∀ {c0 : Cd} {p : Nat} {ls : List Int} {R : List OpD}, At V c0 p ls R → p + opsLen l ≤ 262144 → At V (l.foldl (fun c o => c.once t o abort) c0) (p + opsLen l) (ls ++ labs_ops p l) (R ++ code_ops t V ls.length l abort) := by
  induction l with
  | nil => intro c0 p ls R h _; simpa [opsLen, labs_ops, code_ops] using h
  | cons o l ih =>
    intro c0 p ls R h hp
    rw [opsLen_cons] at hp
    have h1 := at_once (t := t) h o abort (by omega)
    have h2 := ih h1 (by omega)
    rw [List.foldl_cons]
    refine h2.cast (by rw [opsLen_cons]; omega) (by rw [labs_ops, List.append_assoc]) ?_
    rw [code_ops, List.append_assoc, List.length_append, labs_once_len]
theorem x_ops (abort : Nat) (l : List Tx) : ∀ {p q : Nat}, Vseg V q (labs_ops p l) → code_ops t V q l abort = xcode_ops t p l (V abort) := by
  induction l with
  | nil => intro p q _; rfl
  | cons o l ih =>
    intro p q h
    rw [labs_ops] at h
    rw [code_ops, xcode_ops, x_once o abort h.left, ih (h.right (labs_once_len p o))]
theorem adds_ops (abort : Nat) (l : List Tx) : ∀ {c0 : Cd}, Adds (opsLen l) c0 (l.foldl (fun c o => c.once t o abort) c0) := by
  induction l with
  | nil => intro c0; exact Adds.refl
  | cons o l ih => intro c0; rw [opsLen_cons, List.foldl_cons]; exact (adds_once o abort).trans ih
theorem ok_ops {A : Int} (ok : TxOk t) (hA : InCode A) (l : List Tx) : ∀ {p : Nat}, p + opsLen l ≤ 262144 → (∀ o ∈ l, TxWf o) → AllOk (xcode_ops t p l A) := by
  induction l with
  | nil => intro p _ _; exact AllOk.nil
  | cons o l ih =>
    intro p hp hw
    rw [opsLen_cons] at hp
    exact (ok_once ok (by omega) (hw o List.mem_cons_self) hA).app (ih (by omega) (fun x hx => hw x (List.mem_cons_of_mem _ hx)))

/-! ### a row -/
def txLen (l : List Tx) : Nat := 185 + opsLen l
def txLab (l : List Tx) : Nat := 31 + opsLab l
def code_txs (t : TxC) (V : Nat → Int) (q : Nat) (l : List Tx) : List OpD :=
  code_begin_ t V (q + 3) ++ [⟨5, 0, 7, 7, 0, t.sum⟩] ++ code_ops t V (q + 3) l (q + 1) ++ code_commit t V (q + 3 + opsLab l) (q + 1) ++ [⟨4, 0, 1, 7, 0, t.sum⟩, ⟨11, 0, 1, 0, 0, 0⟩, ⟨6, 0, 0, 0, 0, V (q + 2)⟩] ++ code_abort t V (q + 31 + opsLab l) ++ [⟨6, 0, 0, 0, 0, V q⟩]
def labs_txs (p : Nat) (l : List Tx) : List Int := [(p : Int), ((p + 181 + opsLen l : Nat) : Int), ((p + 185 + opsLen l : Nat) : Int)] ++ (labs_ops (p + 9) l ++ labs_commit (p + 9 + opsLen l))
def xcode_txs (t : TxC) (p : Nat) (l : List Tx) : List OpD :=
  xcode_begin_ t p ++ [⟨5, 0, 7, 7, 0, t.sum⟩] ++ xcode_ops t (p + 9) l ((p + 181 + opsLen l : Nat) : Int) ++ xcode_commit t (p + 9 + opsLen l) ((p + 181 + opsLen l : Nat) : Int) ++ [⟨4, 0, 1, 7, 0, t.sum⟩, ⟨11, 0, 1, 0, 0, 0⟩, ⟨6, 0, 0, 0, 0, ((p + 185 + opsLen l : Nat) : Int)⟩] ++ xcode_abort t (p + 181 + opsLen l) ++ [⟨6, 0, 0, 0, 0, (p : Int)⟩]
theorem labs_txs_len (p : Nat) (l : List Tx) : (labs_txs p l).length = txLab l := by simp [labs_txs, labs_ops_len, labs_commit_len, txLab]; omega
theorem xcode_txs_len (t : TxC) (p : Nat) (l : List Tx) : (xcode_txs t p l).length = txLen l := by simp [xcode_txs, xcode_begin__len, xcode_ops_len, xcode_commit_len, xcode_abort_len, txLen]; omega
set_option maxHeartbeats 1000000 in
theorem at_txs (h : At V c0 p ls R) (l : List Tx) (hp : p + txLen l ≤ 262144) : At V (c0.txs t l) (p + txLen l) (ls ++ labs_txs p l) (R ++ code_txs t V ls.length l) := by
  obtain rfl := h.labs
  unfold txLen at *
  have h1 := h.label
  have h2 := h1.label
  have h3 := h2.label
  have h4 := h3.here (c0).labs.length
  have h5 := at_begin_ (t := t) h4 (by omega)
  have h6 := h5.put ⟨5, 0, 7, 7, 0, t.sum⟩ (by omega)
  have h7 := at_ops (t := t) (c0.label).labs.length l h6 (by omega)
  have h8 := at_commit (t := t) h7 (c0.label).labs.length (by omega)
  have h9 := h8.put ⟨4, 0, 1, 7, 0, t.sum⟩ (by omega)
  have h10 := h9.put ⟨11, 0, 1, 0, 0, 0⟩ (by omega)
  have h11 := h10.jump (c0.label.label).labs.length (by omega)
  have h12 := h11.here (c0.label).labs.length
  have h13 := at_abort (t := t) h12 (by omega)
  have h14 := h13.jump (c0).labs.length (by omega)
  have h15 := h14.here (c0.label.label).labs.length
  refine h15.cast (by omega) ?_ ?_
  · simp only [labs_txs, Cd.label, emset_at, emset_at0, List.length_append, List.length_cons, List.length_nil, List.append_assoc, List.cons_append, List.nil_append, List.set_cons_zero, List.set_cons_succ, labs_begin__len, labs_abort_len, Nat.zero_add]
    have e1 : labs_begin_ p = [] := rfl
    have e2 : ∀ p, labs_abort p = [] := fun _ => rfl
    simp only [e1, e2, List.append_nil, List.nil_append]
    simp
    omega
  · have e1 : labs_begin_ p = [] := rfl
    have e2 : ∀ p, labs_abort p = [] := fun _ => rfl
    simp [code_txs, Cd.label, e1, e2, labs_ops_len, labs_commit_len]
    simp [Nat.add_assoc]
    rw [show opsLab l + 3 = 3 + opsLab l from by omega, show opsLab l + 31 = 31 + opsLab l from by omega]
theorem adds_txs (l : List Tx) : Adds (txLen l) c0 (c0.txs t l) := by
  have a1 := Adds.label (c := c0)
  have a2 := Adds.trans a1 Adds.label
  have a3 := Adds.trans a2 Adds.label
  have a4 := Adds.trans a3 (Adds.here (c0).labs.length)
  have a5 := Adds.trans a4 (adds_begin_ (t := t))
  have a6 := Adds.trans a5 (Adds.put ⟨5, 0, 7, 7, 0, t.sum⟩)
  have a7 := Adds.trans a6 (adds_ops (t := t) (c0.label).labs.length l)
  have a8 := Adds.trans a7 (adds_commit (t := t) (c0.label).labs.length)
  have a9 := Adds.trans a8 (Adds.put ⟨4, 0, 1, 7, 0, t.sum⟩)
  have a10 := Adds.trans a9 (Adds.put ⟨11, 0, 1, 0, 0, 0⟩)
  have a11 := Adds.trans a10 (Adds.jump (c0.label.label).labs.length)
  have a12 := Adds.trans a11 (Adds.here (c0.label).labs.length)
  have a13 := Adds.trans a12 (adds_abort (t := t))
  have a14 := Adds.trans a13 (Adds.jump (c0).labs.length)
  have a15 := Adds.trans a14 (Adds.here (c0.label.label).labs.length)
  have e : 0 + 0 + 0 + 0 + 8 + 1 + opsLen l + 169 + 1 + 1 + 1 + 0 + 3 + 1 + 0 = txLen l := by unfold txLen; omega
  rw [← e]
  exact a15
theorem x_txs (l : List Tx) (h : Vseg V q (labs_txs p l)) : code_txs t V q l = xcode_txs t p l := by
  unfold labs_txs at h
  have e0 := h.left.at0
  have e1 := h.left.at1
  have e2 := h.left.at2
  have s := h.right (n := 3) (by simp)
  have s1 := s.left
  have s2 := s.right (labs_ops_len l (p + 9))
  unfold code_txs xcode_txs
  rw [x_ops (q + 1) l s1, x_commit (q + 1) s2, e0, e1, e2, x_begin_ (p := p) (fun i v hv => by simp [labs_begin_] at hv), x_abort (p := p + 181 + opsLen l) (fun i v hv => by simp [labs_abort] at hv)]
theorem ok_txs (ok : TxOk t) (l : List Tx) (hp : p + txLen l ≤ 262144) (hw : ∀ o ∈ l, TxWf o) : AllOk (xcode_txs t p l) := by
  unfold txLen at hp
  have hA : InCode ((p + 181 + opsLen l : Nat) : Int) := by unfold InCode; omega
  obtain ⟨⟨w1, w2⟩, ⟨l1, l2⟩, ⟨r1, r2⟩, ⟨a1, a2⟩, ⟨b1, b2⟩, ⟨t1, t2⟩, ⟨s1, s2⟩⟩ := id ok
  unfold xcode_txs
  refine ((((((ok_begin_ ok (by omega)).app (.cons (ok_mem (by decide) ⟨by decide, by decide⟩ ⟨by decide, by decide⟩ (by unfold In64; omega)) .nil)).app (ok_ops ok hA l (by omega) hw)).app (ok_commit ok (by omega) hA)).app (.cons (ok_mem (by decide) ⟨by decide, by decide⟩ ⟨by decide, by decide⟩ (by unfold In64; omega)) (.cons (ok_out ⟨by decide, by decide⟩) (.cons (ok_jump (by unfold InCode; omega)) .nil)))).app (ok_abort ok (by omega))).app (.cons (ok_jump (by unfold InCode; omega)) .nil)

/-! ### all rows -/
def rowsLen (rs : List (List Tx)) : Nat := (rs.map txLen).sum
theorem rowsLen_cons (l : List Tx) (rs : List (List Tx)) : rowsLen (l :: rs) = txLen l + rowsLen rs := by simp [rowsLen]
def rowsLab (rs : List (List Tx)) : Nat := (rs.map txLab).sum
def code_rows (t : TxC) (V : Nat → Int) : Nat → List (List Tx) → List OpD
  | _, [] => []
  | q, l :: rs => code_txs t V q l ++ code_rows t V (q + txLab l) rs
def labs_rows : Nat → List (List Tx) → List Int
  | _, [] => []
  | p, l :: rs => labs_txs p l ++ labs_rows (p + txLen l) rs
def xcode_rows (t : TxC) : Nat → List (List Tx) → List OpD
  | _, [] => []
  | p, l :: rs => xcode_txs t p l ++ xcode_rows t (p + txLen l) rs
theorem xcode_rows_len (t : TxC) (rs : List (List Tx)) : ∀ p, (xcode_rows t p rs).length = rowsLen rs := by
  induction rs with
  | nil => intro p; rfl
  | cons l rs ih => intro p; rw [xcode_rows, List.length_append, xcode_txs_len, ih, rowsLen_cons]
theorem at_rows (rs : List (List Tx)) : ∀ {c0 : Cd} {p : Nat} {ls : List Int} {R : List OpD}, At V c0 p ls R → p + rowsLen rs ≤ 262144 → At V (rs.foldl (fun c l => c.txs t l) c0) (p + rowsLen rs) (ls ++ labs_rows p rs) (R ++ code_rows t V ls.length rs) := by
  induction rs with
  | nil => intro c0 p ls R h _; simpa [rowsLen, labs_rows, code_rows] using h
  | cons l rs ih =>
    intro c0 p ls R h hp
    rw [rowsLen_cons] at hp
    have h1 := at_txs (t := t) h l (by omega)
    have h2 := ih h1 (by omega)
    rw [List.foldl_cons]
    refine h2.cast (by rw [rowsLen_cons]; omega) (by rw [labs_rows, List.append_assoc]) ?_
    rw [code_rows, List.append_assoc, List.length_append, labs_txs_len]
theorem x_rows (rs : List (List Tx)) : ∀ {p q : Nat}, Vseg V q (labs_rows p rs) → code_rows t V q rs = xcode_rows t p rs := by
  induction rs with
  | nil => intro p q _; rfl
  | cons l rs ih =>
    intro p q h
    rw [labs_rows] at h
    rw [code_rows, xcode_rows, x_txs l h.left, ih (h.right (labs_txs_len p l))]
theorem adds_rows (rs : List (List Tx)) : ∀ {c0 : Cd}, Adds (rowsLen rs) c0 (rs.foldl (fun c l => c.txs t l) c0) := by
  induction rs with
  | nil => intro c0; exact Adds.refl
  | cons l rs ih => intro c0; rw [rowsLen_cons, List.foldl_cons]; exact (adds_txs l).trans ih
theorem ok_rows (ok : TxOk t) (rs : List (List Tx)) : ∀ {p : Nat}, p + rowsLen rs ≤ 262144 → (∀ l ∈ rs, ∀ o ∈ l, TxWf o) → AllOk (xcode_rows t p rs) := by
  induction rs with
  | nil => intro p _ _; exact AllOk.nil
  | cons l rs ih =>
    intro p hp hw
    rw [rowsLen_cons] at hp
    exact (ok_txs ok l (by omega) (hw l List.mem_cons_self)).app (ih (by omega) (fun x hx => hw x (List.mem_cons_of_mem _ hx)))

/-! ### a thread -/
def progLen (rs : List (List Tx)) : Nat := 3 + rowsLen rs
/-- a thread's code -/
def xprog (t : TxC) (rs : List (List Tx)) : List OpD := xcode_start t 0 ++ xcode_rows t 2 rs ++ [⟨14, 0, 0, 0, 0, 0⟩]
theorem xprog_len (t : TxC) (rs : List (List Tx)) : (xprog t rs).length = progLen rs := by simp [xprog, xcode_start_len, xcode_rows_len, progLen]; omega
theorem at_new : At V Cd.new 0 [] [] := ⟨rfl, rfl, rfl, fun x hx => (by cases hx), rfl⟩
/-- there is room -/
theorem prog_fits {rs : List (List Tx)} (h : progLen rs ≤ 262144) : (rowsCd t rs).halt.over = false ∧ (rowsCd t rs).halt.done = xprog t rs ∧ (rowsCd t rs).halt.ops.length = progLen rs := by
  unfold progLen at h ⊢
  have key : ∀ V, At V (rowsCd t rs).halt (2 + rowsLen rs + 1) ([] ++ labs_start 0 ++ labs_rows 2 rs) ([] ++ code_start t V 0 ++ code_rows t V 0 rs ++ [⟨14, 0, 0, 0, 0, 0⟩]) := fun V => by
    have h1 := at_start (t := t) (at_new (V := V)) (by omega)
    have h2 := at_rows (t := t) rs h1 (by omega)
    exact (h2.put ⟨14, 0, 0, 0, 0, 0⟩ (by omega)).cast (by omega) (by rw [Nat.zero_add]) rfl
  have h0 := key (fun q => (rowsCd t rs).halt.labs.getD q 0)
  refine ⟨h0.over, ?_, by rw [h0.len]; omega⟩
  have hd : (rowsCd t rs).halt.done = rsv (fun q => (rowsCd t rs).halt.labs.getD q 0) (rowsCd t rs).halt := rfl
  rw [hd, h0.res, h0.labs]
  have hs : labs_start 0 = [] := rfl
  have hv : Vseg (fun q => (labs_rows 2 rs).getD q 0) 0 (labs_rows 2 rs) := fun i v hv => by
    rw [Nat.zero_add]
    simp [List.getD_eq_getElem?_getD, hv]
  rw [hs, List.nil_append, List.nil_append, List.nil_append, x_rows rs hv, x_start (p := 0) (fun i v hv => by simp [labs_start] at hv)]
  rfl
/-- there was room -/
theorem prog_room {rs : List (List Tx)} (h : (rowsCd t rs).halt.over = false) : progLen rs ≤ 262144 := by
  have a := ((adds_start (t := t) (c0 := Cd.new)).trans (adds_rows (t := t) rs)).trans (Adds.put ⟨14, 0, 0, 0, 0, 0⟩)
  have := (a h).2.2 (by omega)
  unfold progLen
  simp [Cd.new] at this
  omega
/-- all of it may be -/
theorem prog_ok {rs : List (List Tx)} (ok : TxOk t) (h : progLen rs ≤ 262144) (hw : ∀ l ∈ rs, ∀ o ∈ l, TxWf o) : AllOk (xprog t rs) := by
  unfold progLen at h
  exact ((ok_start ok (by omega)).app (ok_rows ok rs (by omega) hw)).app (.cons ok_halt .nil)
theorem nOnce_le (o : Tx) : nOnce o ≤ 48 := by unfold nOnce; split <;> omega
theorem opsLen_le (l : List Tx) : opsLen l ≤ 48 * l.length := by
  induction l with
  | nil => simp [opsLen]
  | cons o l ih => rw [opsLen_cons, List.length_cons]; have := nOnce_le o; omega
/-- rows that are few -/
theorem rowsLen_few {rs : List (List Tx)} (h : ∀ l ∈ rs, l.length ≤ 8) : rowsLen rs ≤ 569 * rs.length := by
  induction rs with
  | nil => simp [rowsLen]
  | cons l rs ih =>
    rw [rowsLen_cons, List.length_cons]
    have h1 := opsLen_le l
    have h2 := h l List.mem_cons_self
    have h3 := ih (fun x hx => h x (List.mem_cons_of_mem _ hx))
    unfold txLen
    omega
end

end Go.Proofs.YtopdcjimpdalpaaGreat

/- Part of the proof: EmR -/
import Derived.Test.YtgodmogkhgilmaaGreatDoorP21
namespace Go.Proofs.YtgodmogkhgilmaaGreatDoor
open Go.RowKit
set_option linter.unusedVariables false
set_option linter.unusedSimpArgs false
set_option maxHeartbeats 1000000
def rsv (V : Nat → Int) (c : Cd) : List OpD := c.ops.mapIdx (fun i o => match jmpAt c.jmp i with
  | none => o
  | some q => { o with n := V q })
structure At (V : Nat → Int) (c : Cd) (p : Nat) (ls : List Int) (R : List OpD) : Prop where
  over : c.over = false
  len : c.ops.length = p
  labs : c.labs = ls
  keys : ∀ x ∈ c.jmp, x.1 < p
  res : rsv V c = R
variable {V : Nat → Int} {c c0 : Cd} {p : Nat} {ls : List Int} {R : List OpD} {t : TxC}
theorem jmpAt_snoc (l : List (Nat × Nat)) (x : Nat × Nat) (i : Nat) : jmpAt (l ++ [x]) i = if x.1 = i then some x.2 else jmpAt l i := by unfold jmpAt; rw [List.foldl_append]; rfl
theorem jmpAt_none {l : List (Nat × Nat)} {n : Nat} (h : ∀ x ∈ l, x.1 < n) {i : Nat} (hi : n ≤ i) : jmpAt l i = none := by
  have key : ∀ (l : List (Nat × Nat)) (a : Nat → Option Nat), (∀ x ∈ l, x.1 < n) → a i = none → l.foldl (fun a p i => if p.1 = i then some p.2 else a i) a i = none := by
    intro l
    induction l with
    | nil => intro a _ ha; exact ha
    | cons x l ih =>
      intro a hl ha
      refine ih _ (fun y hy => hl y (List.mem_cons_of_mem _ hy)) ?_
      have := hl x List.mem_cons_self
      show (if x.1 = i then some x.2 else a i) = none
      rw [if_neg (by omega)]
      exact ha
  exact key l _ h rfl
theorem At.cast (h : At V c p ls R) {p' : Nat} {ls' : List Int} {R' : List OpD} (hp : p = p') (hl : ls = ls') (hR : R = R') : At V c p' ls' R' := by subst hp; subst hl; subst hR; exact h
theorem At.put (h : At V c p ls R) (o : OpD) (hp : p < 262144) : At V (c.put o) (p + 1) ls (R ++ [o]) := by
  have e : c.put o = { c with ops := c.ops ++ [o] } := by unfold Cd.put; rw [if_neg (by rw [h.len]; omega)]
  rw [e]
  refine ⟨h.over, by simp [h.len], h.labs, fun x hx => Nat.lt_succ_of_lt (h.keys x hx), ?_⟩
  have hr := h.res
  unfold rsv at hr ⊢
  simp only
  rw [List.mapIdx_append, hr]
  congr 1
  simp only [List.mapIdx_cons, List.mapIdx_nil, Nat.zero_add, h.len, jmpAt_none h.keys (Nat.le_refl _)]
theorem At.mark (h : At V c p ls R) (l : Nat) (o : OpD) (hp : p < 262144) : At V ((c.mark l).put o) (p + 1) ls (R ++ [{ o with n := V l }]) := by
  have e : (c.mark l).put o = { c with ops := c.ops ++ [o], jmp := c.jmp ++ [(c.ops.length, l)] } := by
    unfold Cd.put Cd.mark
    simp only
    rw [if_neg (by rw [h.len]; omega)]
  rw [e]
  refine ⟨h.over, by simp [h.len], h.labs, fun x hx => ?_, ?_⟩
  · rcases List.mem_append.1 hx with hx | hx
    · exact Nat.lt_succ_of_lt (h.keys x hx)
    · simp at hx; rw [hx]; simp [h.len]
  · have hr := h.res
    unfold rsv at hr ⊢
    simp only
    rw [List.mapIdx_append, ← hr]
    congr 1
    · refine List.ext_getElem? fun i => ?_
      rw [List.getElem?_mapIdx, List.getElem?_mapIdx]
      cases ho : c.ops[i]? with
      | none => rfl
      | some o' =>
        have hi := (List.getElem?_eq_some_iff.1 ho).1
        rw [jmpAt_snoc, if_neg (by simp only; omega)]
    · simp only [List.mapIdx_cons, List.mapIdx_nil, Nat.zero_add, jmpAt_snoc, if_pos]
theorem At.jump (h : At V c p ls R) (l : Nat) (hp : p < 262144) : At V (c.jump l) (p + 1) ls (R ++ [⟨6, 0, 0, 0, 0, V l⟩]) := h.mark l _ hp
theorem At.zero (h : At V c p ls R) (r : Int) (l : Nat) (hp : p < 262144) : At V (c.zero r l) (p + 1) ls (R ++ [⟨7, 0, r, 0, 0, V l⟩]) := h.mark l _ hp
theorem At.label (h : At V c p ls R) : At V c.label p (ls ++ [-1]) R := ⟨h.over, h.len, by unfold Cd.label; rw [h.labs], h.keys, h.res⟩
theorem At.here (h : At V c p ls R) (l : Nat) : At V (c.here l) p (ls.set l p) R := ⟨h.over, h.len, by unfold Cd.here; rw [h.labs, h.len], h.keys, h.res⟩
theorem emset_at (a b : List Int) (j : Nat) (v : Int) : (a ++ b).set (a.length + j) v = a ++ b.set j v := by rw [List.set_append_right _ _ (by omega), Nat.add_sub_cancel_left]
theorem emset_at0 (a b : List Int) (v : Int) : (a ++ b).set a.length v = a ++ b.set 0 v := emset_at a b 0 v
def code_search (t : TxC) (V : Nat → Int) (q : Nat) (found : Nat) : List OpD := [⟨4, 0, 3, 7, 0, t.base + 2⟩, ⟨7, 0, 3, 0, 0, V (q + 1)⟩, ⟨1, 0, 4, 0, 0, 1⟩, ⟨3, 2, 3, 4, 0, 0⟩, ⟨2, 0, 5, 3, 0, 0⟩, ⟨3, 1, 5, 5, 0, 0⟩, ⟨1, 0, 4, 0, 0, t.log⟩, ⟨3, 1, 5, 4, 0, 0⟩, ⟨4, 0, 6, 5, 0, 0⟩, ⟨3, 2, 6, 1, 0, 0⟩, ⟨7, 0, 6, 0, 0, V (found)⟩, ⟨6, 0, 0, 0, 0, V (q)⟩]
def labs_search (p : Nat) : List Int := [((p + 1 : Nat) : Int), ((p + 12 : Nat) : Int)]
theorem labs_search_len (p : Nat) : (labs_search p).length = 2 := by simp [labs_search]
theorem at_search (h : At V c0 p ls R) (found : Nat) (hp : p + 12 ≤ 262144) : At V (c0.search t found) (p + 12) (ls ++ labs_search p) (R ++ code_search t V ls.length found) := by
  obtain rfl := h.labs
  have eloop : c0.labs.length = c0.labs.length + 0 := by rfl
  have h1 := h.label
  have emiss : (c0.label).labs.length = c0.labs.length + 1 := by simp [Cd.label]
  have h2 := h1.label
  have h3 := h2.put ⟨4, 0, 3, 7, 0, t.base + 2⟩ (by omega)
  have h4 := h3.here (c0).labs.length
  have h5 := h4.zero 3 (c0.label).labs.length (by omega)
  have h6 := (h5.put ⟨1, 0, 4, 0, 0, 1⟩ (by omega)).put ⟨3, 2, 3, 4, 0, 0⟩ (by omega)
  have h7 := h6.put ⟨2, 0, 5, 3, 0, 0⟩ (by omega)
  have h8 := h7.put ⟨3, 1, 5, 5, 0, 0⟩ (by omega)
  have h9 := (h8.put ⟨1, 0, 4, 0, 0, t.log⟩ (by omega)).put ⟨3, 1, 5, 4, 0, 0⟩ (by omega)
  have h10 := h9.put ⟨4, 0, 6, 5, 0, 0⟩ (by omega)
  have h11 := h10.put ⟨3, 2, 6, 1, 0, 0⟩ (by omega)
  have h12 := h11.zero 6 found (by omega)
  have h13 := h12.jump (c0).labs.length (by omega)
  have h14 := h13.here (c0.label).labs.length
  refine h14.cast (by omega) ?_ ?_
  · simp [labs_search, Cd.label, emset_at, emset_at0] <;> omega
  · simp [code_search, Cd.label]
def code_unless (t : TxC) (V : Nat → Int) (q : Nat) (r : Int) (l : Nat) : List OpD := [⟨7, 0, r, 0, 0, V (q)⟩, ⟨6, 0, 0, 0, 0, V (l)⟩]
def labs_unless (p : Nat) : List Int := [((p + 2 : Nat) : Int)]
theorem labs_unless_len (p : Nat) : (labs_unless p).length = 1 := by simp [labs_unless]
theorem at_unless (h : At V c0 p ls R) (r : Int) (l : Nat) (hp : p + 2 ≤ 262144) : At V (c0.unless t r l) (p + 2) (ls ++ labs_unless p) (R ++ code_unless t V ls.length r l) := by
  obtain rfl := h.labs
  have eon : c0.labs.length = c0.labs.length + 0 := by rfl
  have h1 := h.label
  have h2 := h1.zero r (c0).labs.length (by omega)
  have h3 := h2.jump l (by omega)
  have h4 := h3.here (c0).labs.length
  refine h4.cast (by omega) ?_ ?_
  · simp [labs_unless, Cd.label, emset_at, emset_at0] <;> omega
  · simp [code_unless, Cd.label]
def code_lock (t : TxC) (V : Nat → Int) (q : Nat) : List OpD := [⟨2, 0, 5, 6, 0, 0⟩, ⟨1, 0, 4, 0, 0, (t.words + 2)⟩, ⟨3, 1, 5, 4, 0, 0⟩]
def labs_lock (p : Nat) : List Int := []
theorem labs_lock_len (p : Nat) : (labs_lock p).length = 0 := by simp [labs_lock]
theorem at_lock (h : At V c0 p ls R) (hp : p + 3 ≤ 262144) : At V (c0.lock t) (p + 3) (ls ++ labs_lock p) (R ++ code_lock t V ls.length) := by
  obtain rfl := h.labs
  have h1 := h.put ⟨2, 0, 5, 6, 0, 0⟩ (by omega)
  have h2 := (h1.put ⟨1, 0, 4, 0, 0, (t.words + 2)⟩ (by omega)).put ⟨3, 1, 5, 4, 0, 0⟩ (by omega)
  refine h2.cast (by omega) ?_ ?_
  · simp [labs_lock]
  · simp [code_lock, Cd.label]
def code_old (t : TxC) (V : Nat → Int) (q : Nat) : List OpD := [⟨2, 0, 5, 6, 0, 0⟩, ⟨1, 0, 4, 0, 0, (t.base + 8)⟩, ⟨3, 1, 5, 4, 0, 0⟩]
def labs_old (p : Nat) : List Int := []
theorem labs_old_len (p : Nat) : (labs_old p).length = 0 := by simp [labs_old]
theorem at_old (h : At V c0 p ls R) (hp : p + 3 ≤ 262144) : At V (c0.old t) (p + 3) (ls ++ labs_old p) (R ++ code_old t V ls.length) := by
  obtain rfl := h.labs
  have h1 := h.put ⟨2, 0, 5, 6, 0, 0⟩ (by omega)
  have h2 := (h1.put ⟨1, 0, 4, 0, 0, (t.base + 8)⟩ (by omega)).put ⟨3, 1, 5, 4, 0, 0⟩ (by omega)
  refine h2.cast (by omega) ?_ ?_
  · simp [labs_old]
  · simp [code_old, Cd.label]
def code_start (t : TxC) (V : Nat → Int) (q : Nat) : List OpD := [⟨1, 0, 0, 0, 0, t.arena⟩, ⟨5, 0, 7, 0, 0, t.base + 4⟩]
def labs_start (p : Nat) : List Int := []
theorem at_start (h : At V c0 p ls R) (hp : p + 2 ≤ 262144) : At V (c0.start t) (p + 2) (ls ++ labs_start p) (R ++ code_start t V ls.length) := by
  obtain rfl := h.labs
  have h1 := h.put ⟨1, 0, 0, 0, 0, t.arena⟩ (by omega)
  have h2 := h1.put ⟨5, 0, 7, 0, 0, t.base + 4⟩ (by omega)
  refine h2.cast (by omega) ?_ ?_
  · simp [labs_start]
  · simp [code_start, Cd.label]
def code_abort (t : TxC) (V : Nat → Int) (q : Nat) : List OpD := [⟨12, 0, 7, 7, 0, 8⟩, ⟨4, 0, 1, 7, 0, t.base + 5⟩, ⟨5, 0, 7, 1, 0, t.base + 4⟩]
def labs_abort (p : Nat) : List Int := []
theorem labs_abort_len (p : Nat) : (labs_abort p).length = 0 := by simp [labs_abort]
theorem at_abort (h : At V c0 p ls R) (hp : p + 3 ≤ 262144) : At V (c0.abort t) (p + 3) (ls ++ labs_abort p) (R ++ code_abort t V ls.length) := by
  obtain rfl := h.labs
  have h1 := h.put ⟨12, 0, 7, 7, 0, 8⟩ (by omega)
  have h2 := h1.put ⟨4, 0, 1, 7, 0, t.base + 5⟩ (by omega)
  have h3 := h2.put ⟨5, 0, 7, 1, 0, t.base + 4⟩ (by omega)
  refine h3.cast (by omega) ?_ ?_
  · simp [labs_abort]
  · simp [code_abort, Cd.label]
def code_tell (t : TxC) (V : Nat → Int) (q : Nat) : List OpD := [⟨1, 0, 1, 0, 0, t.prints⟩, ⟨4, 0, 2, 7, 0, t.base + 3⟩, ⟨7, 0, 2, 0, 0, V (q + 1)⟩, ⟨4, 0, 3, 1, 0, 0⟩, ⟨11, 0, 3, 0, 0, 0⟩, ⟨1, 0, 4, 0, 0, 1⟩, ⟨3, 1, 1, 4, 0, 0⟩, ⟨1, 0, 4, 0, 0, 1⟩, ⟨3, 2, 2, 4, 0, 0⟩, ⟨6, 0, 0, 0, 0, V (q)⟩]
def labs_tell (p : Nat) : List Int := [((p + 2 : Nat) : Int), ((p + 10 : Nat) : Int)]
theorem labs_tell_len (p : Nat) : (labs_tell p).length = 2 := by simp [labs_tell]
theorem at_tell (h : At V c0 p ls R) (hp : p + 10 ≤ 262144) : At V (c0.tell t) (p + 10) (ls ++ labs_tell p) (R ++ code_tell t V ls.length) := by
  obtain rfl := h.labs
  have eloop : c0.labs.length = c0.labs.length + 0 := by rfl
  have h1 := h.label
  have efin : (c0.label).labs.length = c0.labs.length + 1 := by simp [Cd.label]
  have h2 := h1.label
  have h3 := h2.put ⟨1, 0, 1, 0, 0, t.prints⟩ (by omega)
  have h4 := h3.put ⟨4, 0, 2, 7, 0, t.base + 3⟩ (by omega)
  have h5 := h4.here (c0).labs.length
  have h6 := h5.zero 2 (c0.label).labs.length (by omega)
  have h7 := h6.put ⟨4, 0, 3, 1, 0, 0⟩ (by omega)
  have h8 := h7.put ⟨11, 0, 3, 0, 0, 0⟩ (by omega)
  have h9 := (h8.put ⟨1, 0, 4, 0, 0, 1⟩ (by omega)).put ⟨3, 1, 1, 4, 0, 0⟩ (by omega)
  have h10 := (h9.put ⟨1, 0, 4, 0, 0, 1⟩ (by omega)).put ⟨3, 2, 2, 4, 0, 0⟩ (by omega)
  have h11 := h10.jump (c0).labs.length (by omega)
  have h12 := h11.here (c0.label).labs.length
  refine h12.cast (by omega) ?_ ?_
  · simp [labs_tell, Cd.label, emset_at, emset_at0] <;> omega
  · simp [code_tell, Cd.label]
def code_read (t : TxC) (V : Nat → Int) (q : Nat) (abort : Nat) : List OpD := code_search t V (q + 2) (q) ++ [⟨2, 0, 5, 1, 0, 0⟩, ⟨1, 0, 4, 0, 0, 15⟩, ⟨3, 6, 5, 4, 0, 0⟩, ⟨2, 0, 0, 5, 0, 0⟩, ⟨1, 0, 4, 0, 0, (t.words + 2)⟩, ⟨3, 1, 5, 4, 0, 0⟩, ⟨4, 0, 3, 5, 0, 0⟩, ⟨2, 0, 6, 3, 0, 0⟩, ⟨1, 0, 4, 0, 0, 1⟩, ⟨3, 6, 6, 4, 0, 0⟩] ++ code_unless t V (q + 4) 6 abort ++ [⟨2, 0, 6, 3, 0, 0⟩, ⟨1, 0, 4, 0, 0, 1⟩, ⟨3, 10, 6, 4, 0, 0⟩, ⟨4, 0, 4, 7, 0, t.base + 0⟩, ⟨3, 13, 4, 6, 0, 0⟩] ++ code_unless t V (q + 5) 4 abort ++ [⟨4, 0, 2, 1, 0, 0⟩, ⟨4, 0, 4, 5, 0, 0⟩, ⟨3, 2, 4, 3, 0, 0⟩] ++ code_unless t V (q + 6) 4 abort ++ [⟨1, 0, 4, 0, 0, 1⟩, ⟨3, 9, 4, 0, 0, 0⟩, ⟨4, 0, 6, 7, 0, t.base + 1⟩, ⟨3, 7, 6, 4, 0, 0⟩, ⟨5, 0, 7, 6, 0, t.base + 1⟩, ⟨6, 0, 0, 0, 0, V (q + 1)⟩, ⟨4, 0, 2, 5, 0, 1⟩, ⟨12, 0, 1, 2, 0, 2⟩]
def labs_read (p : Nat) : List Int := [((p + 42 : Nat) : Int), ((p + 43 : Nat) : Int)] ++ labs_search (p) ++ labs_unless (p + 22) ++ labs_unless (p + 29) ++ labs_unless (p + 34)
theorem labs_read_len (p : Nat) : (labs_read p).length = 7 := by simp [labs_read, labs_search_len, labs_unless_len]
theorem at_read (h : At V c0 p ls R) (abort : Nat) (hp : p + 44 ≤ 262144) : At V (c0.read t abort) (p + 44) (ls ++ labs_read p) (R ++ code_read t V ls.length abort) := by
  obtain rfl := h.labs
  have efound : c0.labs.length = c0.labs.length + 0 := by rfl
  have h1 := h.label
  have edn : (c0.label).labs.length = c0.labs.length + 1 := by simp [Cd.label]
  have h2 := h1.label
  have h3 := at_search (t := t) h2 ((c0).labs.length) (by omega)
  have h4 := h3.put ⟨2, 0, 5, 1, 0, 0⟩ (by omega)
  have h5 := (h4.put ⟨1, 0, 4, 0, 0, 15⟩ (by omega)).put ⟨3, 6, 5, 4, 0, 0⟩ (by omega)
  have h6 := h5.put ⟨2, 0, 0, 5, 0, 0⟩ (by omega)
  have h7 := (h6.put ⟨1, 0, 4, 0, 0, (t.words + 2)⟩ (by omega)).put ⟨3, 1, 5, 4, 0, 0⟩ (by omega)
  have h8 := h7.put ⟨4, 0, 3, 5, 0, 0⟩ (by omega)
  have h9 := h8.put ⟨2, 0, 6, 3, 0, 0⟩ (by omega)
  have h10 := (h9.put ⟨1, 0, 4, 0, 0, 1⟩ (by omega)).put ⟨3, 6, 6, 4, 0, 0⟩ (by omega)
  have h11 := at_unless (t := t) h10 6 abort (by omega)
  have h12 := h11.put ⟨2, 0, 6, 3, 0, 0⟩ (by omega)
  have h13 := (h12.put ⟨1, 0, 4, 0, 0, 1⟩ (by omega)).put ⟨3, 10, 6, 4, 0, 0⟩ (by omega)
  have h14 := h13.put ⟨4, 0, 4, 7, 0, t.base + 0⟩ (by omega)
  have h15 := h14.put ⟨3, 13, 4, 6, 0, 0⟩ (by omega)
  have h16 := at_unless (t := t) h15 4 abort (by omega)
  have h17 := h16.put ⟨4, 0, 2, 1, 0, 0⟩ (by omega)
  have h18 := h17.put ⟨4, 0, 4, 5, 0, 0⟩ (by omega)
  have h19 := h18.put ⟨3, 2, 4, 3, 0, 0⟩ (by omega)
  have h20 := at_unless (t := t) h19 4 abort (by omega)
  have h21 := h20.put ⟨1, 0, 4, 0, 0, 1⟩ (by omega)
  have h22 := h21.put ⟨3, 9, 4, 0, 0, 0⟩ (by omega)
  have h23 := h22.put ⟨4, 0, 6, 7, 0, t.base + 1⟩ (by omega)
  have h24 := h23.put ⟨3, 7, 6, 4, 0, 0⟩ (by omega)
  have h25 := h24.put ⟨5, 0, 7, 6, 0, t.base + 1⟩ (by omega)
  have h26 := h25.jump (c0.label).labs.length (by omega)
  have h27 := h26.here (c0).labs.length
  have h28 := h27.put ⟨4, 0, 2, 5, 0, 1⟩ (by omega)
  have h29 := h28.here (c0.label).labs.length
  have h30 := h29.put ⟨12, 0, 1, 2, 0, 2⟩ (by omega)
  refine h30.cast (by omega) ?_ ?_
  · simp [labs_read, labs_search_len, labs_unless_len, Cd.label, emset_at, emset_at0] <;> omega
  · simp [code_read, Cd.label, labs_search_len, labs_unless_len]
def code_write (t : TxC) (V : Nat → Int) (q : Nat) : List OpD := code_search t V (q + 3) (q) ++ [⟨4, 0, 3, 7, 0, t.base + 2⟩, ⟨2, 0, 4, 3, 0, 0⟩, ⟨1, 0, 6, 0, 0, 64⟩, ⟨3, 13, 4, 6, 0, 0⟩] ++ code_unless t V (q + 5) 4 (q + 2) ++ [⟨13, 0, 0, 0, 0, 6⟩, ⟨2, 0, 5, 3, 0, 0⟩, ⟨3, 1, 5, 5, 0, 0⟩, ⟨1, 0, 4, 0, 0, t.log⟩, ⟨3, 1, 5, 4, 0, 0⟩, ⟨5, 0, 5, 1, 0, 0⟩, ⟨1, 0, 4, 0, 0, 1⟩, ⟨3, 1, 3, 4, 0, 0⟩, ⟨5, 0, 7, 3, 0, t.base + 2⟩, ⟨5, 0, 5, 2, 0, 1⟩, ⟨12, 0, 1, 2, 0, 3⟩]
def labs_write (p : Nat) : List Int := [((p + 27 : Nat) : Int), ((p + 28 : Nat) : Int), ((p + 19 : Nat) : Int)] ++ labs_search (p) ++ labs_unless (p + 16)
theorem labs_write_len (p : Nat) : (labs_write p).length = 6 := by simp [labs_write, labs_search_len, labs_unless_len]
theorem at_write (h : At V c0 p ls R) (hp : p + 29 ≤ 262144) : At V (c0.write t) (p + 29) (ls ++ labs_write p) (R ++ code_write t V ls.length) := by
  obtain rfl := h.labs
  have efound : c0.labs.length = c0.labs.length + 0 := by rfl
  have h1 := h.label
  have edn : (c0.label).labs.length = c0.labs.length + 1 := by simp [Cd.label]
  have h2 := h1.label
  have eroom : (c0.label.label).labs.length = c0.labs.length + 2 := by simp [Cd.label]
  have h3 := h2.label
  have h4 := at_search (t := t) h3 ((c0).labs.length) (by omega)
  have h5 := h4.put ⟨4, 0, 3, 7, 0, t.base + 2⟩ (by omega)
  have h6 := h5.put ⟨2, 0, 4, 3, 0, 0⟩ (by omega)
  have h7 := (h6.put ⟨1, 0, 6, 0, 0, 64⟩ (by omega)).put ⟨3, 13, 4, 6, 0, 0⟩ (by omega)
  have h8 := at_unless (t := t) h7 4 ((c0.label.label).labs.length) (by omega)
  have h9 := h8.put ⟨13, 0, 0, 0, 0, 6⟩ (by omega)
  have h10 := h9.here (c0.label.label).labs.length
  have h11 := h10.put ⟨2, 0, 5, 3, 0, 0⟩ (by omega)
  have h12 := h11.put ⟨3, 1, 5, 5, 0, 0⟩ (by omega)
  have h13 := (h12.put ⟨1, 0, 4, 0, 0, t.log⟩ (by omega)).put ⟨3, 1, 5, 4, 0, 0⟩ (by omega)
  have h14 := h13.put ⟨5, 0, 5, 1, 0, 0⟩ (by omega)
  have h15 := (h14.put ⟨1, 0, 4, 0, 0, 1⟩ (by omega)).put ⟨3, 1, 3, 4, 0, 0⟩ (by omega)
  have h16 := h15.put ⟨5, 0, 7, 3, 0, t.base + 2⟩ (by omega)
  have h17 := h16.here (c0).labs.length
  have h18 := h17.put ⟨5, 0, 5, 2, 0, 1⟩ (by omega)
  have h19 := h18.here (c0.label).labs.length
  have h20 := h19.put ⟨12, 0, 1, 2, 0, 3⟩ (by omega)
  refine h20.cast (by omega) ?_ ?_
  · simp [labs_write, labs_search_len, labs_unless_len, Cd.label, emset_at, emset_at0] <;> omega
  · simp [code_write, Cd.label, labs_search_len, labs_unless_len]
def code_locks1 (t : TxC) (V : Nat → Int) (q : Nat) : List OpD := [⟨4, 0, 3, 5, 0, 0⟩, ⟨1, 0, 4, 0, 0, 15⟩, ⟨3, 6, 3, 4, 0, 0⟩, ⟨1, 0, 4, 0, 0, 1⟩, ⟨3, 9, 4, 3, 0, 0⟩, ⟨3, 7, 2, 4, 0, 0⟩]
def labs_locks1 (p : Nat) : List Int := []
theorem labs_locks1_len (p : Nat) : (labs_locks1 p).length = 0 := by simp [labs_locks1]
theorem at_locks1 (h : At V c0 p ls R) (hp : p + 6 ≤ 262144) : At V (c0.locks1 t) (p + 6) (ls ++ labs_locks1 p) (R ++ code_locks1 t V ls.length) := by
  obtain rfl := h.labs
  have h1 := h.put ⟨4, 0, 3, 5, 0, 0⟩ (by omega)
  have h2 := (h1.put ⟨1, 0, 4, 0, 0, 15⟩ (by omega)).put ⟨3, 6, 3, 4, 0, 0⟩ (by omega)
  have h3 := h2.put ⟨1, 0, 4, 0, 0, 1⟩ (by omega)
  have h4 := h3.put ⟨3, 9, 4, 3, 0, 0⟩ (by omega)
  have h5 := h4.put ⟨3, 7, 2, 4, 0, 0⟩ (by omega)
  refine h5.cast (by omega) ?_ ?_
  · simp [labs_locks1]
  · simp [code_locks1, Cd.label]
def code_commit1 (t : TxC) (V : Nat → Int) (q : Nat) : List OpD := [⟨4, 0, 2, 5, 0, 0⟩, ⟨4, 0, 3, 5, 0, 1⟩, ⟨5, 0, 2, 3, 0, 0⟩]
def labs_commit1 (p : Nat) : List Int := []
theorem labs_commit1_len (p : Nat) : (labs_commit1 p).length = 0 := by simp [labs_commit1]
theorem at_commit1 (h : At V c0 p ls R) (hp : p + 3 ≤ 262144) : At V (c0.commit1 t) (p + 3) (ls ++ labs_commit1 p) (R ++ code_commit1 t V ls.length) := by
  obtain rfl := h.labs
  have h1 := h.put ⟨4, 0, 2, 5, 0, 0⟩ (by omega)
  have h2 := h1.put ⟨4, 0, 3, 5, 0, 1⟩ (by omega)
  have h3 := h2.put ⟨5, 0, 2, 3, 0, 0⟩ (by omega)
  refine h3.cast (by omega) ?_ ?_
  · simp [labs_commit1]
  · simp [code_commit1, Cd.label]
def code_commit2 (t : TxC) (V : Nat → Int) (q : Nat) : List OpD := code_lock t V (q) ++ [⟨5, 0, 5, 1, 0, 0⟩]
def labs_commit2 (p : Nat) : List Int := [] ++ labs_lock (p)
theorem labs_commit2_len (p : Nat) : (labs_commit2 p).length = 0 := by simp [labs_commit2, labs_lock_len]
theorem at_commit2 (h : At V c0 p ls R) (hp : p + 4 ≤ 262144) : At V (c0.commit2 t) (p + 4) (ls ++ labs_commit2 p) (R ++ code_commit2 t V ls.length) := by
  obtain rfl := h.labs
  have h1 := at_lock (t := t) h (by omega)
  have h2 := h1.put ⟨5, 0, 5, 1, 0, 0⟩ (by omega)
  refine h2.cast (by omega) ?_ ?_
  · simp [labs_commit2, labs_lock_len, Cd.label, emset_at, emset_at0] <;> omega
  · simp [code_commit2, Cd.label, labs_lock_len]
def code_commit3 (t : TxC) (V : Nat → Int) (q : Nat) : List OpD := code_old t V (q) ++ [⟨4, 0, 2, 5, 0, 0⟩] ++ code_lock t V (q) ++ [⟨5, 0, 5, 2, 0, 0⟩]
def labs_commit3 (p : Nat) : List Int := [] ++ labs_old (p) ++ labs_lock (p + 4)
theorem labs_commit3_len (p : Nat) : (labs_commit3 p).length = 0 := by simp [labs_commit3, labs_lock_len, labs_old_len]
theorem at_commit3 (h : At V c0 p ls R) (hp : p + 8 ≤ 262144) : At V (c0.commit3 t) (p + 8) (ls ++ labs_commit3 p) (R ++ code_commit3 t V ls.length) := by
  obtain rfl := h.labs
  have h1 := at_old (t := t) h (by omega)
  have h2 := h1.put ⟨4, 0, 2, 5, 0, 0⟩ (by omega)
  have h3 := at_lock (t := t) h2 (by omega)
  have h4 := h3.put ⟨5, 0, 5, 2, 0, 0⟩ (by omega)
  refine h4.cast (by omega) ?_ ?_
  · simp [labs_commit3, labs_lock_len, labs_old_len, Cd.label, emset_at, emset_at0] <;> omega
  · simp [code_commit3, Cd.label, labs_lock_len, labs_old_len]
def code_locks2 (t : TxC) (V : Nat → Int) (q : Nat) (rel : Nat) : List OpD := code_lock t V (q) ++ [⟨4, 0, 3, 5, 0, 0⟩, ⟨2, 0, 4, 3, 0, 0⟩, ⟨1, 0, 2, 0, 0, 1⟩, ⟨3, 6, 4, 2, 0, 0⟩] ++ code_unless t V (q) 4 rel ++ [⟨2, 0, 4, 3, 0, 0⟩, ⟨1, 0, 2, 0, 0, (2 * t.th + 1)⟩, ⟨8, 0, 5, 4, 2, 0⟩, ⟨3, 2, 4, 3, 0, 0⟩] ++ code_unless t V (q + 1) 4 rel ++ code_old t V (q + 2) ++ [⟨5, 0, 5, 3, 0, 0⟩, ⟨1, 0, 4, 0, 0, 1⟩, ⟨3, 9, 4, 6, 0, 0⟩, ⟨4, 0, 3, 7, 0, t.base + 6⟩, ⟨3, 7, 3, 4, 0, 0⟩, ⟨5, 0, 7, 3, 0, t.base + 6⟩]
def labs_locks2 (p : Nat) : List Int := [] ++ labs_lock (p) ++ labs_unless (p + 7) ++ labs_unless (p + 13) ++ labs_old (p + 15)
theorem labs_locks2_len (p : Nat) : (labs_locks2 p).length = 2 := by simp [labs_locks2, labs_lock_len, labs_old_len, labs_unless_len]
theorem at_locks2 (h : At V c0 p ls R) (rel : Nat) (hp : p + 24 ≤ 262144) : At V (c0.locks2 t rel) (p + 24) (ls ++ labs_locks2 p) (R ++ code_locks2 t V ls.length rel) := by
  obtain rfl := h.labs
  have h1 := at_lock (t := t) h (by omega)
  have h2 := h1.put ⟨4, 0, 3, 5, 0, 0⟩ (by omega)
  have h3 := h2.put ⟨2, 0, 4, 3, 0, 0⟩ (by omega)
  have h4 := h3.put ⟨1, 0, 2, 0, 0, 1⟩ (by omega)
  have h5 := h4.put ⟨3, 6, 4, 2, 0, 0⟩ (by omega)
  have h6 := at_unless (t := t) h5 4 rel (by omega)
  have h7 := h6.put ⟨2, 0, 4, 3, 0, 0⟩ (by omega)
  have h8 := h7.put ⟨1, 0, 2, 0, 0, (2 * t.th + 1)⟩ (by omega)
  have h9 := h8.put ⟨8, 0, 5, 4, 2, 0⟩ (by omega)
  have h10 := h9.put ⟨3, 2, 4, 3, 0, 0⟩ (by omega)
  have h11 := at_unless (t := t) h10 4 rel (by omega)
  have h12 := at_old (t := t) h11 (by omega)
  have h13 := h12.put ⟨5, 0, 5, 3, 0, 0⟩ (by omega)
  have h14 := h13.put ⟨1, 0, 4, 0, 0, 1⟩ (by omega)
  have h15 := h14.put ⟨3, 9, 4, 6, 0, 0⟩ (by omega)
  have h16 := h15.put ⟨4, 0, 3, 7, 0, t.base + 6⟩ (by omega)
  have h17 := h16.put ⟨3, 7, 3, 4, 0, 0⟩ (by omega)
  have h18 := h17.put ⟨5, 0, 7, 3, 0, t.base + 6⟩ (by omega)
  refine h18.cast (by omega) ?_ ?_
  · simp [labs_locks2, labs_lock_len, labs_old_len, labs_unless_len, Cd.label, emset_at, emset_at0] <;> omega
  · simp [code_locks2, Cd.label, labs_lock_len, labs_old_len, labs_unless_len]
def code_valid1 (t : TxC) (V : Nat → Int) (q : Nat) (rel : Nat) : List OpD := code_lock t V (q + 1) ++ [⟨4, 0, 2, 5, 0, 0⟩, ⟨2, 0, 4, 2, 0, 0⟩, ⟨1, 0, 3, 0, 0, 1⟩, ⟨3, 6, 4, 3, 0, 0⟩, ⟨7, 0, 4, 0, 0, V (q)⟩, ⟨1, 0, 3, 0, 0, (2 * t.th + 1)⟩, ⟨3, 2, 2, 3, 0, 0⟩] ++ code_unless t V (q + 1) 2 rel ++ code_old t V (q + 2) ++ [⟨4, 0, 2, 5, 0, 0⟩, ⟨1, 0, 3, 0, 0, 1⟩, ⟨3, 10, 2, 3, 0, 0⟩, ⟨4, 0, 4, 7, 0, t.base + 0⟩, ⟨3, 13, 4, 2, 0, 0⟩] ++ code_unless t V (q + 2) 4 rel
def labs_valid1 (p : Nat) : List Int := [((p + 16 : Nat) : Int)] ++ labs_lock (p) ++ labs_unless (p + 10) ++ labs_old (p + 12) ++ labs_unless (p + 20)
theorem labs_valid1_len (p : Nat) : (labs_valid1 p).length = 3 := by simp [labs_valid1, labs_lock_len, labs_old_len, labs_unless_len]
theorem at_valid1 (h : At V c0 p ls R) (rel : Nat) (hp : p + 22 ≤ 262144) : At V (c0.valid1 t rel) (p + 22) (ls ++ labs_valid1 p) (R ++ code_valid1 t V ls.length rel) := by
  obtain rfl := h.labs
  have efree : c0.labs.length = c0.labs.length + 0 := by rfl
  have h1 := h.label
  have h2 := at_lock (t := t) h1 (by omega)
  have h3 := h2.put ⟨4, 0, 2, 5, 0, 0⟩ (by omega)
  have h4 := h3.put ⟨2, 0, 4, 2, 0, 0⟩ (by omega)
  have h5 := (h4.put ⟨1, 0, 3, 0, 0, 1⟩ (by omega)).put ⟨3, 6, 4, 3, 0, 0⟩ (by omega)
  have h6 := h5.zero 4 (c0).labs.length (by omega)
  have h7 := (h6.put ⟨1, 0, 3, 0, 0, (2 * t.th + 1)⟩ (by omega)).put ⟨3, 2, 2, 3, 0, 0⟩ (by omega)
  have h8 := at_unless (t := t) h7 2 rel (by omega)
  have h9 := at_old (t := t) h8 (by omega)
  have h10 := h9.put ⟨4, 0, 2, 5, 0, 0⟩ (by omega)
  have h11 := h10.here (c0).labs.length
  have h12 := (h11.put ⟨1, 0, 3, 0, 0, 1⟩ (by omega)).put ⟨3, 10, 2, 3, 0, 0⟩ (by omega)
  have h13 := h12.put ⟨4, 0, 4, 7, 0, t.base + 0⟩ (by omega)
  have h14 := h13.put ⟨3, 13, 4, 2, 0, 0⟩ (by omega)
  have h15 := at_unless (t := t) h14 4 rel (by omega)
  refine h15.cast (by omega) ?_ ?_
  · simp [labs_valid1, labs_lock_len, labs_old_len, labs_unless_len, Cd.label, emset_at, emset_at0] <;> omega
  · simp [code_valid1, Cd.label, labs_lock_len, labs_old_len, labs_unless_len]
def code_entries_l (t : TxC) (V : Nat → Int) (q : Nat) : List OpD := [⟨4, 0, 6, 7, 0, t.base + 2⟩, ⟨1, 0, 5, 0, 0, t.log⟩, ⟨7, 0, 6, 0, 0, V (q + 1)⟩] ++ code_locks1 t V (q + 2) ++ [⟨1, 0, 4, 0, 0, 2⟩, ⟨3, 1, 5, 4, 0, 0⟩, ⟨1, 0, 4, 0, 0, 1⟩, ⟨3, 2, 6, 4, 0, 0⟩, ⟨6, 0, 0, 0, 0, V (q)⟩]
def labs_entries_l (p : Nat) : List Int := [((p + 2 : Nat) : Int), ((p + 14 : Nat) : Int)] ++ labs_locks1 (p + 3)
theorem labs_entries_l_len (p : Nat) : (labs_entries_l p).length = 2 := by simp [labs_entries_l, labs_locks1_len]
theorem at_entries_l (h : At V c0 p ls R) (hp : p + 14 ≤ 262144) : At V (c0.entries_l t) (p + 14) (ls ++ labs_entries_l p) (R ++ code_entries_l t V ls.length) := by
  obtain rfl := h.labs
  have eloop : c0.labs.length = c0.labs.length + 0 := by rfl
  have h1 := h.label
  have efin : (c0.label).labs.length = c0.labs.length + 1 := by simp [Cd.label]
  have h2 := h1.label
  have h3 := h2.put ⟨4, 0, 6, 7, 0, t.base + 2⟩ (by omega)
  have h4 := h3.put ⟨1, 0, 5, 0, 0, t.log⟩ (by omega)
  have h5 := h4.here (c0).labs.length
  have h6 := h5.zero 6 (c0.label).labs.length (by omega)
  have h7 := at_locks1 (t := t) h6 (by omega)
  have h8 := (h7.put ⟨1, 0, 4, 0, 0, 2⟩ (by omega)).put ⟨3, 1, 5, 4, 0, 0⟩ (by omega)
  have h9 := (h8.put ⟨1, 0, 4, 0, 0, 1⟩ (by omega)).put ⟨3, 2, 6, 4, 0, 0⟩ (by omega)
  have h10 := h9.jump (c0).labs.length (by omega)
  have h11 := h10.here (c0.label).labs.length
  refine h11.cast (by omega) ?_ ?_
  · simp [labs_entries_l, labs_locks1_len, Cd.label, emset_at, emset_at0] <;> omega
  · simp [code_entries_l, Cd.label, labs_locks1_len]
def code_entries_c (t : TxC) (V : Nat → Int) (q : Nat) : List OpD := [⟨4, 0, 6, 7, 0, t.base + 2⟩, ⟨1, 0, 5, 0, 0, t.log⟩, ⟨7, 0, 6, 0, 0, V (q + 1)⟩] ++ code_commit1 t V (q + 2) ++ [⟨1, 0, 4, 0, 0, 2⟩, ⟨3, 1, 5, 4, 0, 0⟩, ⟨1, 0, 4, 0, 0, 1⟩, ⟨3, 2, 6, 4, 0, 0⟩, ⟨6, 0, 0, 0, 0, V (q)⟩]
def labs_entries_c (p : Nat) : List Int := [((p + 2 : Nat) : Int), ((p + 11 : Nat) : Int)] ++ labs_commit1 (p + 3)
theorem labs_entries_c_len (p : Nat) : (labs_entries_c p).length = 2 := by simp [labs_entries_c, labs_commit1_len]
theorem at_entries_c (h : At V c0 p ls R) (hp : p + 11 ≤ 262144) : At V (c0.entries_c t) (p + 11) (ls ++ labs_entries_c p) (R ++ code_entries_c t V ls.length) := by
  obtain rfl := h.labs
  have eloop : c0.labs.length = c0.labs.length + 0 := by rfl
  have h1 := h.label
  have efin : (c0.label).labs.length = c0.labs.length + 1 := by simp [Cd.label]
  have h2 := h1.label
  have h3 := h2.put ⟨4, 0, 6, 7, 0, t.base + 2⟩ (by omega)
  have h4 := h3.put ⟨1, 0, 5, 0, 0, t.log⟩ (by omega)
  have h5 := h4.here (c0).labs.length
  have h6 := h5.zero 6 (c0.label).labs.length (by omega)
  have h7 := at_commit1 (t := t) h6 (by omega)
  have h8 := (h7.put ⟨1, 0, 4, 0, 0, 2⟩ (by omega)).put ⟨3, 1, 5, 4, 0, 0⟩ (by omega)
  have h9 := (h8.put ⟨1, 0, 4, 0, 0, 1⟩ (by omega)).put ⟨3, 2, 6, 4, 0, 0⟩ (by omega)
  have h10 := h9.jump (c0).labs.length (by omega)
  have h11 := h10.here (c0.label).labs.length
  refine h11.cast (by omega) ?_ ?_
  · simp [labs_entries_c, labs_commit1_len, Cd.label, emset_at, emset_at0] <;> omega
  · simp [code_entries_c, Cd.label, labs_commit1_len]
def code_stripes_l (t : TxC) (V : Nat → Int) (q : Nat) (rel : Nat) : List OpD := [⟨1, 0, 6, 0, 0, 0⟩, ⟨2, 0, 4, 6, 0, 0⟩, ⟨1, 0, 3, 0, 0, 16⟩, ⟨3, 13, 4, 3, 0, 0⟩, ⟨7, 0, 4, 0, 0, V (q + 2)⟩, ⟨4, 0, 4, 7, 0, t.base + 7⟩, ⟨3, 10, 4, 6, 0, 0⟩, ⟨1, 0, 3, 0, 0, 1⟩, ⟨3, 6, 4, 3, 0, 0⟩, ⟨7, 0, 4, 0, 0, V (q + 1)⟩] ++ code_locks2 t V (q + 3) rel ++ [⟨1, 0, 3, 0, 0, 1⟩, ⟨3, 1, 6, 3, 0, 0⟩, ⟨6, 0, 0, 0, 0, V (q)⟩]
def labs_stripes_l (p : Nat) : List Int := [((p + 1 : Nat) : Int), ((p + 34 : Nat) : Int), ((p + 37 : Nat) : Int)] ++ labs_locks2 (p + 10)
theorem labs_stripes_l_len (p : Nat) : (labs_stripes_l p).length = 5 := by simp [labs_stripes_l, labs_locks2_len]
theorem at_stripes_l (h : At V c0 p ls R) (rel : Nat) (hp : p + 37 ≤ 262144) : At V (c0.stripes_l t rel) (p + 37) (ls ++ labs_stripes_l p) (R ++ code_stripes_l t V ls.length rel) := by
  obtain rfl := h.labs
  have eloop : c0.labs.length = c0.labs.length + 0 := by rfl
  have h1 := h.label
  have enext : (c0.label).labs.length = c0.labs.length + 1 := by simp [Cd.label]
  have h2 := h1.label
  have efin : (c0.label.label).labs.length = c0.labs.length + 2 := by simp [Cd.label]
  have h3 := h2.label
  have h4 := h3.put ⟨1, 0, 6, 0, 0, 0⟩ (by omega)
  have h5 := h4.here (c0).labs.length
  have h6 := h5.put ⟨2, 0, 4, 6, 0, 0⟩ (by omega)
  have h7 := (h6.put ⟨1, 0, 3, 0, 0, 16⟩ (by omega)).put ⟨3, 13, 4, 3, 0, 0⟩ (by omega)
  have h8 := h7.zero 4 (c0.label.label).labs.length (by omega)
  have h9 := h8.put ⟨4, 0, 4, 7, 0, t.base + 7⟩ (by omega)
  have h10 := h9.put ⟨3, 10, 4, 6, 0, 0⟩ (by omega)
  have h11 := (h10.put ⟨1, 0, 3, 0, 0, 1⟩ (by omega)).put ⟨3, 6, 4, 3, 0, 0⟩ (by omega)
  have h12 := h11.zero 4 (c0.label).labs.length (by omega)
  have h13 := at_locks2 (t := t) h12 rel (by omega)
  have h14 := h13.here (c0.label).labs.length
  have h15 := (h14.put ⟨1, 0, 3, 0, 0, 1⟩ (by omega)).put ⟨3, 1, 6, 3, 0, 0⟩ (by omega)
  have h16 := h15.jump (c0).labs.length (by omega)
  have h17 := h16.here (c0.label.label).labs.length
  refine h17.cast (by omega) ?_ ?_
  · simp [labs_stripes_l, labs_locks2_len, Cd.label, emset_at, emset_at0] <;> omega
  · simp [code_stripes_l, Cd.label, labs_locks2_len]
def code_stripes_v (t : TxC) (V : Nat → Int) (q : Nat) (rel : Nat) : List OpD := [⟨1, 0, 6, 0, 0, 0⟩, ⟨2, 0, 4, 6, 0, 0⟩, ⟨1, 0, 3, 0, 0, 16⟩, ⟨3, 13, 4, 3, 0, 0⟩, ⟨7, 0, 4, 0, 0, V (q + 2)⟩, ⟨4, 0, 4, 7, 0, t.base + 1⟩, ⟨3, 10, 4, 6, 0, 0⟩, ⟨1, 0, 3, 0, 0, 1⟩, ⟨3, 6, 4, 3, 0, 0⟩, ⟨7, 0, 4, 0, 0, V (q + 1)⟩] ++ code_valid1 t V (q + 3) rel ++ [⟨1, 0, 3, 0, 0, 1⟩, ⟨3, 1, 6, 3, 0, 0⟩, ⟨6, 0, 0, 0, 0, V (q)⟩]
def labs_stripes_v (p : Nat) : List Int := [((p + 1 : Nat) : Int), ((p + 32 : Nat) : Int), ((p + 35 : Nat) : Int)] ++ labs_valid1 (p + 10)
theorem labs_stripes_v_len (p : Nat) : (labs_stripes_v p).length = 6 := by simp [labs_stripes_v, labs_valid1_len]
theorem at_stripes_v (h : At V c0 p ls R) (rel : Nat) (hp : p + 35 ≤ 262144) : At V (c0.stripes_v t rel) (p + 35) (ls ++ labs_stripes_v p) (R ++ code_stripes_v t V ls.length rel) := by
  obtain rfl := h.labs
  have eloop : c0.labs.length = c0.labs.length + 0 := by rfl
  have h1 := h.label
  have enext : (c0.label).labs.length = c0.labs.length + 1 := by simp [Cd.label]
  have h2 := h1.label
  have efin : (c0.label.label).labs.length = c0.labs.length + 2 := by simp [Cd.label]
  have h3 := h2.label
  have h4 := h3.put ⟨1, 0, 6, 0, 0, 0⟩ (by omega)
  have h5 := h4.here (c0).labs.length
  have h6 := h5.put ⟨2, 0, 4, 6, 0, 0⟩ (by omega)
  have h7 := (h6.put ⟨1, 0, 3, 0, 0, 16⟩ (by omega)).put ⟨3, 13, 4, 3, 0, 0⟩ (by omega)
  have h8 := h7.zero 4 (c0.label.label).labs.length (by omega)
  have h9 := h8.put ⟨4, 0, 4, 7, 0, t.base + 1⟩ (by omega)
  have h10 := h9.put ⟨3, 10, 4, 6, 0, 0⟩ (by omega)
  have h11 := (h10.put ⟨1, 0, 3, 0, 0, 1⟩ (by omega)).put ⟨3, 6, 4, 3, 0, 0⟩ (by omega)
  have h12 := h11.zero 4 (c0.label).labs.length (by omega)
  have h13 := at_valid1 (t := t) h12 rel (by omega)
  have h14 := h13.here (c0.label).labs.length
  have h15 := (h14.put ⟨1, 0, 3, 0, 0, 1⟩ (by omega)).put ⟨3, 1, 6, 3, 0, 0⟩ (by omega)
  have h16 := h15.jump (c0).labs.length (by omega)
  have h17 := h16.here (c0.label.label).labs.length
  refine h17.cast (by omega) ?_ ?_
  · simp [labs_stripes_v, labs_valid1_len, Cd.label, emset_at, emset_at0] <;> omega
  · simp [code_stripes_v, Cd.label, labs_valid1_len]
def code_stripes_u (t : TxC) (V : Nat → Int) (q : Nat) : List OpD := [⟨1, 0, 6, 0, 0, 0⟩, ⟨2, 0, 4, 6, 0, 0⟩, ⟨1, 0, 3, 0, 0, 16⟩, ⟨3, 13, 4, 3, 0, 0⟩, ⟨7, 0, 4, 0, 0, V (q + 2)⟩, ⟨4, 0, 4, 7, 0, t.base + 6⟩, ⟨3, 10, 4, 6, 0, 0⟩, ⟨1, 0, 3, 0, 0, 1⟩, ⟨3, 6, 4, 3, 0, 0⟩, ⟨7, 0, 4, 0, 0, V (q + 1)⟩] ++ code_commit2 t V (q + 3) ++ [⟨1, 0, 3, 0, 0, 1⟩, ⟨3, 1, 6, 3, 0, 0⟩, ⟨6, 0, 0, 0, 0, V (q)⟩]
def labs_stripes_u (p : Nat) : List Int := [((p + 1 : Nat) : Int), ((p + 14 : Nat) : Int), ((p + 17 : Nat) : Int)] ++ labs_commit2 (p + 10)
theorem labs_stripes_u_len (p : Nat) : (labs_stripes_u p).length = 3 := by simp [labs_stripes_u, labs_commit2_len]
theorem at_stripes_u (h : At V c0 p ls R) (hp : p + 17 ≤ 262144) : At V (c0.stripes_u t) (p + 17) (ls ++ labs_stripes_u p) (R ++ code_stripes_u t V ls.length) := by
  obtain rfl := h.labs
  have eloop : c0.labs.length = c0.labs.length + 0 := by rfl
  have h1 := h.label
  have enext : (c0.label).labs.length = c0.labs.length + 1 := by simp [Cd.label]
  have h2 := h1.label
  have efin : (c0.label.label).labs.length = c0.labs.length + 2 := by simp [Cd.label]
  have h3 := h2.label
  have h4 := h3.put ⟨1, 0, 6, 0, 0, 0⟩ (by omega)
  have h5 := h4.here (c0).labs.length
  have h6 := h5.put ⟨2, 0, 4, 6, 0, 0⟩ (by omega)
  have h7 := (h6.put ⟨1, 0, 3, 0, 0, 16⟩ (by omega)).put ⟨3, 13, 4, 3, 0, 0⟩ (by omega)
  have h8 := h7.zero 4 (c0.label.label).labs.length (by omega)
  have h9 := h8.put ⟨4, 0, 4, 7, 0, t.base + 6⟩ (by omega)
  have h10 := h9.put ⟨3, 10, 4, 6, 0, 0⟩ (by omega)
  have h11 := (h10.put ⟨1, 0, 3, 0, 0, 1⟩ (by omega)).put ⟨3, 6, 4, 3, 0, 0⟩ (by omega)
  have h12 := h11.zero 4 (c0.label).labs.length (by omega)
  have h13 := at_commit2 (t := t) h12 (by omega)
  have h14 := h13.here (c0.label).labs.length
  have h15 := (h14.put ⟨1, 0, 3, 0, 0, 1⟩ (by omega)).put ⟨3, 1, 6, 3, 0, 0⟩ (by omega)
  have h16 := h15.jump (c0).labs.length (by omega)
  have h17 := h16.here (c0.label.label).labs.length
  refine h17.cast (by omega) ?_ ?_
  · simp [labs_stripes_u, labs_commit2_len, Cd.label, emset_at, emset_at0] <;> omega
  · simp [code_stripes_u, Cd.label, labs_commit2_len]
def code_stripes_r (t : TxC) (V : Nat → Int) (q : Nat) : List OpD := [⟨1, 0, 6, 0, 0, 0⟩, ⟨2, 0, 4, 6, 0, 0⟩, ⟨1, 0, 3, 0, 0, 16⟩, ⟨3, 13, 4, 3, 0, 0⟩, ⟨7, 0, 4, 0, 0, V (q + 2)⟩, ⟨4, 0, 4, 7, 0, t.base + 6⟩, ⟨3, 10, 4, 6, 0, 0⟩, ⟨1, 0, 3, 0, 0, 1⟩, ⟨3, 6, 4, 3, 0, 0⟩, ⟨7, 0, 4, 0, 0, V (q + 1)⟩] ++ code_commit3 t V (q + 3) ++ [⟨1, 0, 3, 0, 0, 1⟩, ⟨3, 1, 6, 3, 0, 0⟩, ⟨6, 0, 0, 0, 0, V (q)⟩]
def labs_stripes_r (p : Nat) : List Int := [((p + 1 : Nat) : Int), ((p + 18 : Nat) : Int), ((p + 21 : Nat) : Int)] ++ labs_commit3 (p + 10)
theorem labs_stripes_r_len (p : Nat) : (labs_stripes_r p).length = 3 := by simp [labs_stripes_r, labs_commit3_len]
theorem at_stripes_r (h : At V c0 p ls R) (hp : p + 21 ≤ 262144) : At V (c0.stripes_r t) (p + 21) (ls ++ labs_stripes_r p) (R ++ code_stripes_r t V ls.length) := by
  obtain rfl := h.labs
  have eloop : c0.labs.length = c0.labs.length + 0 := by rfl
  have h1 := h.label
  have enext : (c0.label).labs.length = c0.labs.length + 1 := by simp [Cd.label]
  have h2 := h1.label
  have efin : (c0.label.label).labs.length = c0.labs.length + 2 := by simp [Cd.label]
  have h3 := h2.label
  have h4 := h3.put ⟨1, 0, 6, 0, 0, 0⟩ (by omega)
  have h5 := h4.here (c0).labs.length
  have h6 := h5.put ⟨2, 0, 4, 6, 0, 0⟩ (by omega)
  have h7 := (h6.put ⟨1, 0, 3, 0, 0, 16⟩ (by omega)).put ⟨3, 13, 4, 3, 0, 0⟩ (by omega)
  have h8 := h7.zero 4 (c0.label.label).labs.length (by omega)
  have h9 := h8.put ⟨4, 0, 4, 7, 0, t.base + 6⟩ (by omega)
  have h10 := h9.put ⟨3, 10, 4, 6, 0, 0⟩ (by omega)
  have h11 := (h10.put ⟨1, 0, 3, 0, 0, 1⟩ (by omega)).put ⟨3, 6, 4, 3, 0, 0⟩ (by omega)
  have h12 := h11.zero 4 (c0.label).labs.length (by omega)
  have h13 := at_commit3 (t := t) h12 (by omega)
  have h14 := h13.here (c0.label).labs.length
  have h15 := (h14.put ⟨1, 0, 3, 0, 0, 1⟩ (by omega)).put ⟨3, 1, 6, 3, 0, 0⟩ (by omega)
  have h16 := h15.jump (c0).labs.length (by omega)
  have h17 := h16.here (c0.label.label).labs.length
  refine h17.cast (by omega) ?_ ?_
  · simp [labs_stripes_r, labs_commit3_len, Cd.label, emset_at, emset_at0] <;> omega
  · simp [code_stripes_r, Cd.label, labs_commit3_len]
def code_locks (t : TxC) (V : Nat → Int) (q : Nat) (rel : Nat) : List OpD := [⟨1, 0, 2, 0, 0, 0⟩] ++ code_entries_l t V (q) ++ [⟨5, 0, 7, 2, 0, t.base + 7⟩] ++ code_stripes_l t V (q + 2) rel
def labs_locks (p : Nat) : List Int := [] ++ labs_entries_l (p + 1) ++ labs_stripes_l (p + 16)
theorem labs_locks_len (p : Nat) : (labs_locks p).length = 7 := by simp [labs_locks, labs_entries_l_len, labs_stripes_l_len]
theorem at_locks (h : At V c0 p ls R) (rel : Nat) (hp : p + 53 ≤ 262144) : At V (c0.locks t rel) (p + 53) (ls ++ labs_locks p) (R ++ code_locks t V ls.length rel) := by
  obtain rfl := h.labs
  have h1 := h.put ⟨1, 0, 2, 0, 0, 0⟩ (by omega)
  have h2 := at_entries_l (t := t) h1 (by omega)
  have h3 := h2.put ⟨5, 0, 7, 2, 0, t.base + 7⟩ (by omega)
  have h4 := at_stripes_l (t := t) h3 rel (by omega)
  refine h4.cast (by omega) ?_ ?_
  · simp [labs_locks, labs_entries_l_len, labs_stripes_l_len, Cd.label, emset_at, emset_at0] <;> omega
  · simp [code_locks, Cd.label, labs_entries_l_len, labs_stripes_l_len]
def code_validate (t : TxC) (V : Nat → Int) (q : Nat) (rel : Nat) : List OpD := code_stripes_v t V (q) rel
def labs_validate (p : Nat) : List Int := [] ++ labs_stripes_v (p)
theorem labs_validate_len (p : Nat) : (labs_validate p).length = 6 := by simp [labs_validate, labs_stripes_v_len]
theorem at_validate (h : At V c0 p ls R) (rel : Nat) (hp : p + 35 ≤ 262144) : At V (c0.validate t rel) (p + 35) (ls ++ labs_validate p) (R ++ code_validate t V ls.length rel) := by
  obtain rfl := h.labs
  have h1 := at_stripes_v (t := t) h rel (by omega)
  refine h1.cast (by omega) ?_ ?_
  · simp [labs_validate, labs_stripes_v_len, Cd.label, emset_at, emset_at0] <;> omega
  · simp [code_validate, Cd.label, labs_stripes_v_len]
def code_commit (t : TxC) (V : Nat → Int) (q : Nat) (abort : Nat) : List OpD := [⟨4, 0, 0, 7, 0, t.base + 2⟩, ⟨7, 0, 0, 0, 0, V (q + 1)⟩] ++ code_locks t V (q + 4) (q) ++ [⟨1, 0, 1, 0, 0, 1⟩, ⟨9, 0, 7, 1, 0, t.words + 1⟩, ⟨1, 0, 4, 0, 0, 1⟩, ⟨3, 1, 1, 4, 0, 0⟩, ⟨5, 0, 7, 1, 0, t.base + 7⟩, ⟨2, 0, 2, 1, 0, 0⟩, ⟨1, 0, 4, 0, 0, 2305843009213693952⟩, ⟨3, 13, 2, 4, 0, 0⟩] ++ code_unless t V (q + 11) 2 (q + 3) ++ [⟨13, 0, 0, 0, 0, 7⟩] ++ code_validate t V (q + 12) (q) ++ [⟨4, 0, 1, 7, 0, t.base + 7⟩, ⟨1, 0, 2, 0, 0, 1⟩, ⟨12, 0, 1, 2, 0, 7⟩] ++ code_entries_c t V (q + 18) ++ [⟨4, 0, 1, 7, 0, t.base + 7⟩, ⟨3, 1, 1, 1, 0, 0⟩] ++ code_stripes_u t V (q + 20) ++ [⟨6, 0, 0, 0, 0, V (q + 2)⟩] ++ code_stripes_r t V (q + 23) ++ [⟨6, 0, 0, 0, 0, V (abort)⟩, ⟨4, 0, 1, 7, 0, t.base + 0⟩, ⟨12, 0, 1, 7, 0, 7⟩] ++ code_tell t V (q + 26)
def labs_commit (p : Nat) : List Int := [((p + 135 : Nat) : Int), ((p + 157 : Nat) : Int), ((p + 159 : Nat) : Int), ((p + 66 : Nat) : Int)] ++ labs_locks (p + 2) ++ labs_unless (p + 63) ++ labs_validate (p + 66) ++ labs_entries_c (p + 104) ++ labs_stripes_u (p + 117) ++ labs_stripes_r (p + 135) ++ labs_tell (p + 159)
theorem labs_commit_len (p : Nat) : (labs_commit p).length = 28 := by simp [labs_commit, labs_entries_c_len, labs_locks_len, labs_stripes_r_len, labs_stripes_u_len, labs_tell_len, labs_unless_len, labs_validate_len]
theorem at_commit (h : At V c0 p ls R) (abort : Nat) (hp : p + 169 ≤ 262144) : At V (c0.commit t abort) (p + 169) (ls ++ labs_commit p) (R ++ code_commit t V ls.length abort) := by
  obtain rfl := h.labs
  have erel : c0.labs.length = c0.labs.length + 0 := by rfl
  have h1 := h.label
  have ero : (c0.label).labs.length = c0.labs.length + 1 := by simp [Cd.label]
  have h2 := h1.label
  have etl : (c0.label.label).labs.length = c0.labs.length + 2 := by simp [Cd.label]
  have h3 := h2.label
  have efine : (c0.label.label.label).labs.length = c0.labs.length + 3 := by simp [Cd.label]
  have h4 := h3.label
  have h5 := h4.put ⟨4, 0, 0, 7, 0, t.base + 2⟩ (by omega)
  have h6 := h5.zero 0 (c0.label).labs.length (by omega)
  have h7 := at_locks (t := t) h6 ((c0).labs.length) (by omega)
  have h8 := h7.put ⟨1, 0, 1, 0, 0, 1⟩ (by omega)
  have h9 := h8.put ⟨9, 0, 7, 1, 0, t.words + 1⟩ (by omega)
  have h10 := (h9.put ⟨1, 0, 4, 0, 0, 1⟩ (by omega)).put ⟨3, 1, 1, 4, 0, 0⟩ (by omega)
  have h11 := h10.put ⟨5, 0, 7, 1, 0, t.base + 7⟩ (by omega)
  have h12 := h11.put ⟨2, 0, 2, 1, 0, 0⟩ (by omega)
  have h13 := (h12.put ⟨1, 0, 4, 0, 0, 2305843009213693952⟩ (by omega)).put ⟨3, 13, 2, 4, 0, 0⟩ (by omega)
  have h14 := at_unless (t := t) h13 2 ((c0.label.label.label).labs.length) (by omega)
  have h15 := h14.put ⟨13, 0, 0, 0, 0, 7⟩ (by omega)
  have h16 := h15.here (c0.label.label.label).labs.length
  have h17 := at_validate (t := t) h16 ((c0).labs.length) (by omega)
  have h18 := h17.put ⟨4, 0, 1, 7, 0, t.base + 7⟩ (by omega)
  have h19 := h18.put ⟨1, 0, 2, 0, 0, 1⟩ (by omega)
  have h20 := h19.put ⟨12, 0, 1, 2, 0, 7⟩ (by omega)
  have h21 := at_entries_c (t := t) h20 (by omega)
  have h22 := h21.put ⟨4, 0, 1, 7, 0, t.base + 7⟩ (by omega)
  have h23 := h22.put ⟨3, 1, 1, 1, 0, 0⟩ (by omega)
  have h24 := at_stripes_u (t := t) h23 (by omega)
  have h25 := h24.jump (c0.label.label).labs.length (by omega)
  have h26 := h25.here (c0).labs.length
  have h27 := at_stripes_r (t := t) h26 (by omega)
  have h28 := h27.jump abort (by omega)
  have h29 := h28.here (c0.label).labs.length
  have h30 := h29.put ⟨4, 0, 1, 7, 0, t.base + 0⟩ (by omega)
  have h31 := h30.put ⟨12, 0, 1, 7, 0, 7⟩ (by omega)
  have h32 := h31.here (c0.label.label).labs.length
  have h33 := at_tell (t := t) h32 (by omega)
  refine h33.cast (by omega) ?_ ?_
  · simp [labs_commit, labs_entries_c_len, labs_locks_len, labs_stripes_r_len, labs_stripes_u_len, labs_tell_len, labs_unless_len, labs_validate_len, Cd.label, emset_at, emset_at0] <;> omega
  · simp [code_commit, Cd.label, labs_entries_c_len, labs_locks_len, labs_stripes_r_len, labs_stripes_u_len, labs_tell_len, labs_unless_len, labs_validate_len]
def code_begin_ (t : TxC) (V : Nat → Int) (q : Nat) : List OpD := [⟨4, 0, 1, 7, 0, t.base + 4⟩, ⟨5, 0, 7, 1, 0, t.base + 5⟩, ⟨5, 0, 7, 7, 0, t.base + 1⟩, ⟨5, 0, 7, 7, 0, t.base + 2⟩, ⟨5, 0, 7, 7, 0, t.base + 3⟩, ⟨5, 0, 7, 7, 0, t.base + 6⟩, ⟨15, 0, 0, 7, 0, t.words + 1⟩, ⟨5, 0, 7, 0, 0, t.base + 0⟩]
def labs_begin_ (p : Nat) : List Int := []
theorem labs_begin__len (p : Nat) : (labs_begin_ p).length = 0 := by simp [labs_begin_]
theorem at_begin_ (h : At V c0 p ls R) (hp : p + 8 ≤ 262144) : At V (c0.begin_ t) (p + 8) (ls ++ labs_begin_ p) (R ++ code_begin_ t V ls.length) := by
  obtain rfl := h.labs
  have h1 := h.put ⟨4, 0, 1, 7, 0, t.base + 4⟩ (by omega)
  have h2 := h1.put ⟨5, 0, 7, 1, 0, t.base + 5⟩ (by omega)
  have h3 := h2.put ⟨5, 0, 7, 7, 0, t.base + 1⟩ (by omega)
  have h4 := h3.put ⟨5, 0, 7, 7, 0, t.base + 2⟩ (by omega)
  have h5 := h4.put ⟨5, 0, 7, 7, 0, t.base + 3⟩ (by omega)
  have h6 := h5.put ⟨5, 0, 7, 7, 0, t.base + 6⟩ (by omega)
  have h7 := h6.put ⟨15, 0, 0, 7, 0, t.words + 1⟩ (by omega)
  have h8 := h7.put ⟨5, 0, 7, 0, 0, t.base + 0⟩ (by omega)
  refine h8.cast (by omega) ?_ ?_
  · simp [labs_begin_]
  · simp [code_begin_, Cd.label]
def code_once_r (t : TxC) (V : Nat → Int) (q : Nat) (oth : Int) (oat : Int) (ov : Int) (abort : Nat) : List OpD := [⟨1, 0, 1, 0, 0, oat⟩] ++ code_read t V (q) abort ++ [⟨4, 0, 1, 7, 0, t.sum⟩, ⟨3, 1, 1, 2, 0, 0⟩, ⟨5, 0, 7, 1, 0, t.sum⟩]
def labs_once_r (p : Nat) : List Int := [] ++ labs_read (p + 1)
theorem labs_once_r_len (p : Nat) : (labs_once_r p).length = 7 := by simp [labs_once_r, labs_read_len]
theorem at_once_r (h : At V c0 p ls R) (oth : Int) (oat : Int) (ov : Int) (abort : Nat) (hp : p + 48 ≤ 262144) : At V (c0.once_r t oth oat ov abort) (p + 48) (ls ++ labs_once_r p) (R ++ code_once_r t V ls.length oth oat ov abort) := by
  obtain rfl := h.labs
  have h1 := h.put ⟨1, 0, 1, 0, 0, oat⟩ (by omega)
  have h2 := at_read (t := t) h1 abort (by omega)
  have h3 := h2.put ⟨4, 0, 1, 7, 0, t.sum⟩ (by omega)
  have h4 := h3.put ⟨3, 1, 1, 2, 0, 0⟩ (by omega)
  have h5 := h4.put ⟨5, 0, 7, 1, 0, t.sum⟩ (by omega)
  refine h5.cast (by omega) ?_ ?_
  · simp [labs_once_r, labs_read_len, Cd.label, emset_at, emset_at0] <;> omega
  · simp [code_once_r, Cd.label, labs_read_len]
def code_once_w (t : TxC) (V : Nat → Int) (q : Nat) (oth : Int) (oat : Int) (ov : Int) (abort : Nat) : List OpD := [⟨1, 0, 1, 0, 0, oat⟩, ⟨4, 0, 2, 7, 0, t.sum⟩, ⟨1, 0, 3, 0, 0, ov⟩, ⟨3, 1, 2, 3, 0, 0⟩] ++ code_write t V (q)
def labs_once_w (p : Nat) : List Int := [] ++ labs_write (p + 4)
theorem labs_once_w_len (p : Nat) : (labs_once_w p).length = 6 := by simp [labs_once_w, labs_write_len]
theorem at_once_w (h : At V c0 p ls R) (oth : Int) (oat : Int) (ov : Int) (abort : Nat) (hp : p + 33 ≤ 262144) : At V (c0.once_w t oth oat ov abort) (p + 33) (ls ++ labs_once_w p) (R ++ code_once_w t V ls.length oth oat ov abort) := by
  obtain rfl := h.labs
  have h1 := h.put ⟨1, 0, 1, 0, 0, oat⟩ (by omega)
  have h2 := h1.put ⟨4, 0, 2, 7, 0, t.sum⟩ (by omega)
  have h3 := (h2.put ⟨1, 0, 3, 0, 0, ov⟩ (by omega)).put ⟨3, 1, 2, 3, 0, 0⟩ (by omega)
  have h4 := at_write (t := t) h3 (by omega)
  refine h4.cast (by omega) ?_ ?_
  · simp [labs_once_w, labs_write_len, Cd.label, emset_at, emset_at0] <;> omega
  · simp [code_once_w, Cd.label, labs_write_len]
end Go.Proofs.YtgodmogkhgilmaaGreatDoor

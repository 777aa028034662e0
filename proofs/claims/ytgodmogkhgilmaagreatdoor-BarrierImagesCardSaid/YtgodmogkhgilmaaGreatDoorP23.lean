/- Part of the proof: EmU, EmV -/
import Derived.Test.YtgodmogkhgilmaaGreatDoorP22
namespace Go.Proofs.YtgodmogkhgilmaaGreatDoor
open Go.RowKit
set_option linter.unusedVariables false
set_option linter.unusedSimpArgs false
section
variable {V : Nat → Int} {c c0 : Cd} {p q : Nat} {ls : List Int} {R : List OpD} {t : TxC}
def Vseg (V : Nat → Int) (q : Nat) (L : List Int) : Prop := ∀ (i : Nat) v, L[i]? = some v → V (q + i) = v
theorem Vseg.left {L1 L2 : List Int} (h : Vseg V q (L1 ++ L2)) : Vseg V q L1 := fun i v hv => h i v (by rw [List.getElem?_append_left (List.getElem?_eq_some_iff.1 hv).1]; exact hv)
theorem Vseg.right {L1 L2 : List Int} (h : Vseg V q (L1 ++ L2)) {n : Nat} (hn : L1.length = n) : Vseg V (q + n) L2 := fun i v hv => by
  have := h (n + i) v (by rw [List.getElem?_append_right (by omega), hn, Nat.add_sub_cancel_left]; exact hv)
  rwa [← Nat.add_assoc] at this
theorem Vseg.at0 {L : List Int} {v : Int} (h : Vseg V q (v :: L)) : V q = v := h 0 v rfl
theorem Vseg.at1 {L : List Int} {u v : Int} (h : Vseg V q (u :: v :: L)) : V (q + 1) = v := h 1 v rfl
theorem Vseg.at2 {L : List Int} {u v x : Int} (h : Vseg V q (u :: v :: x :: L)) : V (q + 2) = x := h 2 x rfl
theorem Vseg.at3 {L : List Int} {u v x y : Int} (h : Vseg V q (u :: v :: x :: y :: L)) : V (q + 3) = y := h 3 y rfl
def xcode_search (t : TxC) (p : Nat) (found : Int) : List OpD := [⟨4, 0, 3, 7, 0, t.base + 2⟩, ⟨7, 0, 3, 0, 0, ((p + 12 : Nat) : Int)⟩, ⟨1, 0, 4, 0, 0, 1⟩, ⟨3, 2, 3, 4, 0, 0⟩, ⟨2, 0, 5, 3, 0, 0⟩, ⟨3, 1, 5, 5, 0, 0⟩, ⟨1, 0, 4, 0, 0, t.log⟩, ⟨3, 1, 5, 4, 0, 0⟩, ⟨4, 0, 6, 5, 0, 0⟩, ⟨3, 2, 6, 1, 0, 0⟩, ⟨7, 0, 6, 0, 0, found⟩, ⟨6, 0, 0, 0, 0, ((p + 1 : Nat) : Int)⟩]
theorem xcode_search_len (t : TxC) (p : Nat) (found : Int) : (xcode_search t p found).length = 12 := by simp [xcode_search]
theorem x_search (found : Nat) (h : Vseg V q (labs_search p)) : code_search t V q found = xcode_search t p (V found) := by
  unfold labs_search at h
  have e0 := h.at0
  have e1 := h.at1
  unfold code_search xcode_search
  simp only [Nat.add_zero, e0, e1]
def xcode_unless (t : TxC) (p : Nat) (r : Int) (l : Int) : List OpD := [⟨7, 0, r, 0, 0, ((p + 2 : Nat) : Int)⟩, ⟨6, 0, 0, 0, 0, l⟩]
theorem xcode_unless_len (t : TxC) (p : Nat) (r : Int) (l : Int) : (xcode_unless t p r l).length = 2 := by simp [xcode_unless]
theorem x_unless (r : Int) (l : Nat) (h : Vseg V q (labs_unless p)) : code_unless t V q r l = xcode_unless t p r (V l) := by
  unfold labs_unless at h
  have e0 := h.at0
  unfold code_unless xcode_unless
  simp only [Nat.add_zero, e0]
def xcode_lock (t : TxC) (p : Nat) : List OpD := [⟨2, 0, 5, 6, 0, 0⟩, ⟨1, 0, 4, 0, 0, (t.words + 2)⟩, ⟨3, 1, 5, 4, 0, 0⟩]
theorem xcode_lock_len (t : TxC) (p : Nat) : (xcode_lock t p).length = 3 := by simp [xcode_lock]
theorem x_lock (h : Vseg V q (labs_lock p)) : code_lock t V q = xcode_lock t p := by
  unfold code_lock xcode_lock
  rfl
def xcode_old (t : TxC) (p : Nat) : List OpD := [⟨2, 0, 5, 6, 0, 0⟩, ⟨1, 0, 4, 0, 0, (t.base + 8)⟩, ⟨3, 1, 5, 4, 0, 0⟩]
theorem xcode_old_len (t : TxC) (p : Nat) : (xcode_old t p).length = 3 := by simp [xcode_old]
theorem x_old (h : Vseg V q (labs_old p)) : code_old t V q = xcode_old t p := by
  unfold code_old xcode_old
  rfl
def xcode_start (t : TxC) (p : Nat) : List OpD := [⟨1, 0, 0, 0, 0, t.arena⟩, ⟨5, 0, 7, 0, 0, t.base + 4⟩]
theorem xcode_start_len (t : TxC) (p : Nat) : (xcode_start t p).length = 2 := by simp [xcode_start]
theorem x_start (h : Vseg V q (labs_start p)) : code_start t V q = xcode_start t p := by
  unfold code_start xcode_start
  rfl
def xcode_abort (t : TxC) (p : Nat) : List OpD := [⟨12, 0, 7, 7, 0, 8⟩, ⟨4, 0, 1, 7, 0, t.base + 5⟩, ⟨5, 0, 7, 1, 0, t.base + 4⟩]
theorem xcode_abort_len (t : TxC) (p : Nat) : (xcode_abort t p).length = 3 := by simp [xcode_abort]
theorem x_abort (h : Vseg V q (labs_abort p)) : code_abort t V q = xcode_abort t p := by
  unfold code_abort xcode_abort
  rfl
def xcode_tell (t : TxC) (p : Nat) : List OpD := [⟨1, 0, 1, 0, 0, t.prints⟩, ⟨4, 0, 2, 7, 0, t.base + 3⟩, ⟨7, 0, 2, 0, 0, ((p + 10 : Nat) : Int)⟩, ⟨4, 0, 3, 1, 0, 0⟩, ⟨11, 0, 3, 0, 0, 0⟩, ⟨1, 0, 4, 0, 0, 1⟩, ⟨3, 1, 1, 4, 0, 0⟩, ⟨1, 0, 4, 0, 0, 1⟩, ⟨3, 2, 2, 4, 0, 0⟩, ⟨6, 0, 0, 0, 0, ((p + 2 : Nat) : Int)⟩]
theorem xcode_tell_len (t : TxC) (p : Nat) : (xcode_tell t p).length = 10 := by simp [xcode_tell]
theorem x_tell (h : Vseg V q (labs_tell p)) : code_tell t V q = xcode_tell t p := by
  unfold labs_tell at h
  have e0 := h.at0
  have e1 := h.at1
  unfold code_tell xcode_tell
  simp only [Nat.add_zero, e0, e1]
def xcode_read (t : TxC) (p : Nat) (abort : Int) : List OpD := xcode_search t (p) ((p + 42 : Nat) : Int) ++ [⟨2, 0, 5, 1, 0, 0⟩, ⟨1, 0, 4, 0, 0, 15⟩, ⟨3, 6, 5, 4, 0, 0⟩, ⟨2, 0, 0, 5, 0, 0⟩, ⟨1, 0, 4, 0, 0, (t.words + 2)⟩, ⟨3, 1, 5, 4, 0, 0⟩, ⟨4, 0, 3, 5, 0, 0⟩, ⟨2, 0, 6, 3, 0, 0⟩, ⟨1, 0, 4, 0, 0, 1⟩, ⟨3, 6, 6, 4, 0, 0⟩] ++ xcode_unless t (p + 22) 6 abort ++ [⟨2, 0, 6, 3, 0, 0⟩, ⟨1, 0, 4, 0, 0, 1⟩, ⟨3, 10, 6, 4, 0, 0⟩, ⟨4, 0, 4, 7, 0, t.base + 0⟩, ⟨3, 13, 4, 6, 0, 0⟩] ++ xcode_unless t (p + 29) 4 abort ++ [⟨4, 0, 2, 1, 0, 0⟩, ⟨4, 0, 4, 5, 0, 0⟩, ⟨3, 2, 4, 3, 0, 0⟩] ++ xcode_unless t (p + 34) 4 abort ++ [⟨1, 0, 4, 0, 0, 1⟩, ⟨3, 9, 4, 0, 0, 0⟩, ⟨4, 0, 6, 7, 0, t.base + 1⟩, ⟨3, 7, 6, 4, 0, 0⟩, ⟨5, 0, 7, 6, 0, t.base + 1⟩, ⟨6, 0, 0, 0, 0, ((p + 43 : Nat) : Int)⟩, ⟨4, 0, 2, 5, 0, 1⟩, ⟨12, 0, 1, 2, 0, 2⟩]
theorem xcode_read_len (t : TxC) (p : Nat) (abort : Int) : (xcode_read t p abort).length = 44 := by simp [xcode_read, xcode_search_len, xcode_unless_len]
theorem x_read (abort : Nat) (h : Vseg V q (labs_read p)) : code_read t V q abort = xcode_read t p (V abort) := by
  unfold labs_read at h
  have s3 := Vseg.right h (n := 6) (by simp [labs_search_len, labs_unless_len, labs_unless_len])
  have g3 := Vseg.left h
  have s2 := Vseg.right g3 (n := 5) (by simp [labs_search_len, labs_unless_len])
  have g2 := Vseg.left g3
  have s1 := Vseg.right g2 (n := 4) (by simp [labs_search_len])
  have g1 := Vseg.left g2
  have s0 := Vseg.right g1 (n := 2) (by simp)
  have g0 := Vseg.left g1
  have e0 := g0.at0
  have e1 := g0.at1
  unfold code_read xcode_read
  have f0 := x_search (t := t) q s0
  have f1 := x_unless (t := t) 6 abort s1
  have f2 := x_unless (t := t) 4 abort s2
  have f3 := x_unless (t := t) 4 abort s3
  simp only [Nat.add_zero, f0, f1, f2, f3, e0, e1]
def xcode_write (t : TxC) (p : Nat) : List OpD := xcode_search t (p) ((p + 27 : Nat) : Int) ++ [⟨4, 0, 3, 7, 0, t.base + 2⟩, ⟨2, 0, 4, 3, 0, 0⟩, ⟨1, 0, 6, 0, 0, 64⟩, ⟨3, 13, 4, 6, 0, 0⟩] ++ xcode_unless t (p + 16) 4 ((p + 19 : Nat) : Int) ++ [⟨13, 0, 0, 0, 0, 6⟩, ⟨2, 0, 5, 3, 0, 0⟩, ⟨3, 1, 5, 5, 0, 0⟩, ⟨1, 0, 4, 0, 0, t.log⟩, ⟨3, 1, 5, 4, 0, 0⟩, ⟨5, 0, 5, 1, 0, 0⟩, ⟨1, 0, 4, 0, 0, 1⟩, ⟨3, 1, 3, 4, 0, 0⟩, ⟨5, 0, 7, 3, 0, t.base + 2⟩, ⟨5, 0, 5, 2, 0, 1⟩, ⟨12, 0, 1, 2, 0, 3⟩]
theorem xcode_write_len (t : TxC) (p : Nat) : (xcode_write t p).length = 29 := by simp [xcode_write, xcode_search_len, xcode_unless_len]
theorem x_write (h : Vseg V q (labs_write p)) : code_write t V q = xcode_write t p := by
  unfold labs_write at h
  have s1 := Vseg.right h (n := 5) (by simp [labs_search_len])
  have g1 := Vseg.left h
  have s0 := Vseg.right g1 (n := 3) (by simp)
  have g0 := Vseg.left g1
  have e0 := g0.at0
  have e1 := g0.at1
  have e2 := g0.at2
  unfold code_write xcode_write
  have f0 := x_search (t := t) q s0
  have f1 := x_unless (t := t) 4 (q + 2) s1
  simp only [Nat.add_zero, f0, f1, e0, e1, e2]
def xcode_locks1 (t : TxC) (p : Nat) : List OpD := [⟨4, 0, 3, 5, 0, 0⟩, ⟨1, 0, 4, 0, 0, 15⟩, ⟨3, 6, 3, 4, 0, 0⟩, ⟨1, 0, 4, 0, 0, 1⟩, ⟨3, 9, 4, 3, 0, 0⟩, ⟨3, 7, 2, 4, 0, 0⟩]
theorem xcode_locks1_len (t : TxC) (p : Nat) : (xcode_locks1 t p).length = 6 := by simp [xcode_locks1]
theorem x_locks1 (h : Vseg V q (labs_locks1 p)) : code_locks1 t V q = xcode_locks1 t p := by
  unfold code_locks1 xcode_locks1
  rfl
def xcode_commit1 (t : TxC) (p : Nat) : List OpD := [⟨4, 0, 2, 5, 0, 0⟩, ⟨4, 0, 3, 5, 0, 1⟩, ⟨5, 0, 2, 3, 0, 0⟩]
theorem xcode_commit1_len (t : TxC) (p : Nat) : (xcode_commit1 t p).length = 3 := by simp [xcode_commit1]
theorem x_commit1 (h : Vseg V q (labs_commit1 p)) : code_commit1 t V q = xcode_commit1 t p := by
  unfold code_commit1 xcode_commit1
  rfl
def xcode_commit2 (t : TxC) (p : Nat) : List OpD := xcode_lock t (p) ++ [⟨5, 0, 5, 1, 0, 0⟩]
theorem xcode_commit2_len (t : TxC) (p : Nat) : (xcode_commit2 t p).length = 4 := by simp [xcode_commit2, xcode_lock_len]
theorem x_commit2 (h : Vseg V q (labs_commit2 p)) : code_commit2 t V q = xcode_commit2 t p := by
  unfold labs_commit2 at h
  have s0 := Vseg.right h (n := 0) (by simp)
  rw [Nat.add_zero] at s0
  have g0 := Vseg.left h
  unfold code_commit2 xcode_commit2
  have f0 := x_lock (t := t) s0
  simp only [Nat.add_zero, f0]
def xcode_commit3 (t : TxC) (p : Nat) : List OpD := xcode_old t (p) ++ [⟨4, 0, 2, 5, 0, 0⟩] ++ xcode_lock t (p + 4) ++ [⟨5, 0, 5, 2, 0, 0⟩]
theorem xcode_commit3_len (t : TxC) (p : Nat) : (xcode_commit3 t p).length = 8 := by simp [xcode_commit3, xcode_lock_len, xcode_old_len]
theorem x_commit3 (h : Vseg V q (labs_commit3 p)) : code_commit3 t V q = xcode_commit3 t p := by
  unfold labs_commit3 at h
  have s1 := Vseg.right h (n := 0) (by simp [labs_old_len])
  rw [Nat.add_zero] at s1
  have g1 := Vseg.left h
  have s0 := Vseg.right g1 (n := 0) (by simp)
  rw [Nat.add_zero] at s0
  have g0 := Vseg.left g1
  unfold code_commit3 xcode_commit3
  have f0 := x_old (t := t) s0
  have f1 := x_lock (t := t) s1
  simp only [Nat.add_zero, f0, f1]
def xcode_locks2 (t : TxC) (p : Nat) (rel : Int) : List OpD := xcode_lock t (p) ++ [⟨4, 0, 3, 5, 0, 0⟩, ⟨2, 0, 4, 3, 0, 0⟩, ⟨1, 0, 2, 0, 0, 1⟩, ⟨3, 6, 4, 2, 0, 0⟩] ++ xcode_unless t (p + 7) 4 rel ++ [⟨2, 0, 4, 3, 0, 0⟩, ⟨1, 0, 2, 0, 0, (2 * t.th + 1)⟩, ⟨8, 0, 5, 4, 2, 0⟩, ⟨3, 2, 4, 3, 0, 0⟩] ++ xcode_unless t (p + 13) 4 rel ++ xcode_old t (p + 15) ++ [⟨5, 0, 5, 3, 0, 0⟩, ⟨1, 0, 4, 0, 0, 1⟩, ⟨3, 9, 4, 6, 0, 0⟩, ⟨4, 0, 3, 7, 0, t.base + 6⟩, ⟨3, 7, 3, 4, 0, 0⟩, ⟨5, 0, 7, 3, 0, t.base + 6⟩]
theorem xcode_locks2_len (t : TxC) (p : Nat) (rel : Int) : (xcode_locks2 t p rel).length = 24 := by simp [xcode_locks2, xcode_lock_len, xcode_old_len, xcode_unless_len]
theorem x_locks2 (rel : Nat) (h : Vseg V q (labs_locks2 p)) : code_locks2 t V q rel = xcode_locks2 t p (V rel) := by
  unfold labs_locks2 at h
  have s3 := Vseg.right h (n := 2) (by simp [labs_lock_len, labs_unless_len, labs_unless_len])
  have g3 := Vseg.left h
  have s2 := Vseg.right g3 (n := 1) (by simp [labs_lock_len, labs_unless_len])
  have g2 := Vseg.left g3
  have s1 := Vseg.right g2 (n := 0) (by simp [labs_lock_len])
  rw [Nat.add_zero] at s1
  have g1 := Vseg.left g2
  have s0 := Vseg.right g1 (n := 0) (by simp)
  rw [Nat.add_zero] at s0
  have g0 := Vseg.left g1
  unfold code_locks2 xcode_locks2
  have f0 := x_lock (t := t) s0
  have f1 := x_unless (t := t) 4 rel s1
  have f2 := x_unless (t := t) 4 rel s2
  have f3 := x_old (t := t) s3
  simp only [Nat.add_zero, f0, f1, f2, f3]
def xcode_valid1 (t : TxC) (p : Nat) (rel : Int) : List OpD := xcode_lock t (p) ++ [⟨4, 0, 2, 5, 0, 0⟩, ⟨2, 0, 4, 2, 0, 0⟩, ⟨1, 0, 3, 0, 0, 1⟩, ⟨3, 6, 4, 3, 0, 0⟩, ⟨7, 0, 4, 0, 0, ((p + 16 : Nat) : Int)⟩, ⟨1, 0, 3, 0, 0, (2 * t.th + 1)⟩, ⟨3, 2, 2, 3, 0, 0⟩] ++ xcode_unless t (p + 10) 2 rel ++ xcode_old t (p + 12) ++ [⟨4, 0, 2, 5, 0, 0⟩, ⟨1, 0, 3, 0, 0, 1⟩, ⟨3, 10, 2, 3, 0, 0⟩, ⟨4, 0, 4, 7, 0, t.base + 0⟩, ⟨3, 13, 4, 2, 0, 0⟩] ++ xcode_unless t (p + 20) 4 rel
theorem xcode_valid1_len (t : TxC) (p : Nat) (rel : Int) : (xcode_valid1 t p rel).length = 22 := by simp [xcode_valid1, xcode_lock_len, xcode_old_len, xcode_unless_len]
theorem x_valid1 (rel : Nat) (h : Vseg V q (labs_valid1 p)) : code_valid1 t V q rel = xcode_valid1 t p (V rel) := by
  unfold labs_valid1 at h
  have s3 := Vseg.right h (n := 2) (by simp [labs_lock_len, labs_unless_len, labs_old_len])
  have g3 := Vseg.left h
  have s2 := Vseg.right g3 (n := 2) (by simp [labs_lock_len, labs_unless_len])
  have g2 := Vseg.left g3
  have s1 := Vseg.right g2 (n := 1) (by simp [labs_lock_len])
  have g1 := Vseg.left g2
  have s0 := Vseg.right g1 (n := 1) (by simp)
  have g0 := Vseg.left g1
  have e0 := g0.at0
  unfold code_valid1 xcode_valid1
  have f0 := x_lock (t := t) s0
  have f1 := x_unless (t := t) 2 rel s1
  have f2 := x_old (t := t) s2
  have f3 := x_unless (t := t) 4 rel s3
  simp only [Nat.add_zero, f0, f1, f2, f3, e0]
def xcode_entries_l (t : TxC) (p : Nat) : List OpD := [⟨4, 0, 6, 7, 0, t.base + 2⟩, ⟨1, 0, 5, 0, 0, t.log⟩, ⟨7, 0, 6, 0, 0, ((p + 14 : Nat) : Int)⟩] ++ xcode_locks1 t (p + 3) ++ [⟨1, 0, 4, 0, 0, 2⟩, ⟨3, 1, 5, 4, 0, 0⟩, ⟨1, 0, 4, 0, 0, 1⟩, ⟨3, 2, 6, 4, 0, 0⟩, ⟨6, 0, 0, 0, 0, ((p + 2 : Nat) : Int)⟩]
theorem xcode_entries_l_len (t : TxC) (p : Nat) : (xcode_entries_l t p).length = 14 := by simp [xcode_entries_l, xcode_locks1_len]
theorem x_entries_l (h : Vseg V q (labs_entries_l p)) : code_entries_l t V q = xcode_entries_l t p := by
  unfold labs_entries_l at h
  have s0 := Vseg.right h (n := 2) (by simp)
  have g0 := Vseg.left h
  have e0 := g0.at0
  have e1 := g0.at1
  unfold code_entries_l xcode_entries_l
  have f0 := x_locks1 (t := t) s0
  simp only [Nat.add_zero, f0, e0, e1]
def xcode_entries_c (t : TxC) (p : Nat) : List OpD := [⟨4, 0, 6, 7, 0, t.base + 2⟩, ⟨1, 0, 5, 0, 0, t.log⟩, ⟨7, 0, 6, 0, 0, ((p + 11 : Nat) : Int)⟩] ++ xcode_commit1 t (p + 3) ++ [⟨1, 0, 4, 0, 0, 2⟩, ⟨3, 1, 5, 4, 0, 0⟩, ⟨1, 0, 4, 0, 0, 1⟩, ⟨3, 2, 6, 4, 0, 0⟩, ⟨6, 0, 0, 0, 0, ((p + 2 : Nat) : Int)⟩]
theorem xcode_entries_c_len (t : TxC) (p : Nat) : (xcode_entries_c t p).length = 11 := by simp [xcode_entries_c, xcode_commit1_len]
theorem x_entries_c (h : Vseg V q (labs_entries_c p)) : code_entries_c t V q = xcode_entries_c t p := by
  unfold labs_entries_c at h
  have s0 := Vseg.right h (n := 2) (by simp)
  have g0 := Vseg.left h
  have e0 := g0.at0
  have e1 := g0.at1
  unfold code_entries_c xcode_entries_c
  have f0 := x_commit1 (t := t) s0
  simp only [Nat.add_zero, f0, e0, e1]
def xcode_stripes_l (t : TxC) (p : Nat) (rel : Int) : List OpD := [⟨1, 0, 6, 0, 0, 0⟩, ⟨2, 0, 4, 6, 0, 0⟩, ⟨1, 0, 3, 0, 0, 16⟩, ⟨3, 13, 4, 3, 0, 0⟩, ⟨7, 0, 4, 0, 0, ((p + 37 : Nat) : Int)⟩, ⟨4, 0, 4, 7, 0, t.base + 7⟩, ⟨3, 10, 4, 6, 0, 0⟩, ⟨1, 0, 3, 0, 0, 1⟩, ⟨3, 6, 4, 3, 0, 0⟩, ⟨7, 0, 4, 0, 0, ((p + 34 : Nat) : Int)⟩] ++ xcode_locks2 t (p + 10) rel ++ [⟨1, 0, 3, 0, 0, 1⟩, ⟨3, 1, 6, 3, 0, 0⟩, ⟨6, 0, 0, 0, 0, ((p + 1 : Nat) : Int)⟩]
theorem xcode_stripes_l_len (t : TxC) (p : Nat) (rel : Int) : (xcode_stripes_l t p rel).length = 37 := by simp [xcode_stripes_l, xcode_locks2_len]
theorem x_stripes_l (rel : Nat) (h : Vseg V q (labs_stripes_l p)) : code_stripes_l t V q rel = xcode_stripes_l t p (V rel) := by
  unfold labs_stripes_l at h
  have s0 := Vseg.right h (n := 3) (by simp)
  have g0 := Vseg.left h
  have e0 := g0.at0
  have e1 := g0.at1
  have e2 := g0.at2
  unfold code_stripes_l xcode_stripes_l
  have f0 := x_locks2 (t := t) rel s0
  simp only [Nat.add_zero, f0, e0, e1, e2]
def xcode_stripes_v (t : TxC) (p : Nat) (rel : Int) : List OpD := [⟨1, 0, 6, 0, 0, 0⟩, ⟨2, 0, 4, 6, 0, 0⟩, ⟨1, 0, 3, 0, 0, 16⟩, ⟨3, 13, 4, 3, 0, 0⟩, ⟨7, 0, 4, 0, 0, ((p + 35 : Nat) : Int)⟩, ⟨4, 0, 4, 7, 0, t.base + 1⟩, ⟨3, 10, 4, 6, 0, 0⟩, ⟨1, 0, 3, 0, 0, 1⟩, ⟨3, 6, 4, 3, 0, 0⟩, ⟨7, 0, 4, 0, 0, ((p + 32 : Nat) : Int)⟩] ++ xcode_valid1 t (p + 10) rel ++ [⟨1, 0, 3, 0, 0, 1⟩, ⟨3, 1, 6, 3, 0, 0⟩, ⟨6, 0, 0, 0, 0, ((p + 1 : Nat) : Int)⟩]
theorem xcode_stripes_v_len (t : TxC) (p : Nat) (rel : Int) : (xcode_stripes_v t p rel).length = 35 := by simp [xcode_stripes_v, xcode_valid1_len]
theorem x_stripes_v (rel : Nat) (h : Vseg V q (labs_stripes_v p)) : code_stripes_v t V q rel = xcode_stripes_v t p (V rel) := by
  unfold labs_stripes_v at h
  have s0 := Vseg.right h (n := 3) (by simp)
  have g0 := Vseg.left h
  have e0 := g0.at0
  have e1 := g0.at1
  have e2 := g0.at2
  unfold code_stripes_v xcode_stripes_v
  have f0 := x_valid1 (t := t) rel s0
  simp only [Nat.add_zero, f0, e0, e1, e2]
def xcode_stripes_u (t : TxC) (p : Nat) : List OpD := [⟨1, 0, 6, 0, 0, 0⟩, ⟨2, 0, 4, 6, 0, 0⟩, ⟨1, 0, 3, 0, 0, 16⟩, ⟨3, 13, 4, 3, 0, 0⟩, ⟨7, 0, 4, 0, 0, ((p + 17 : Nat) : Int)⟩, ⟨4, 0, 4, 7, 0, t.base + 6⟩, ⟨3, 10, 4, 6, 0, 0⟩, ⟨1, 0, 3, 0, 0, 1⟩, ⟨3, 6, 4, 3, 0, 0⟩, ⟨7, 0, 4, 0, 0, ((p + 14 : Nat) : Int)⟩] ++ xcode_commit2 t (p + 10) ++ [⟨1, 0, 3, 0, 0, 1⟩, ⟨3, 1, 6, 3, 0, 0⟩, ⟨6, 0, 0, 0, 0, ((p + 1 : Nat) : Int)⟩]
theorem xcode_stripes_u_len (t : TxC) (p : Nat) : (xcode_stripes_u t p).length = 17 := by simp [xcode_stripes_u, xcode_commit2_len]
theorem x_stripes_u (h : Vseg V q (labs_stripes_u p)) : code_stripes_u t V q = xcode_stripes_u t p := by
  unfold labs_stripes_u at h
  have s0 := Vseg.right h (n := 3) (by simp)
  have g0 := Vseg.left h
  have e0 := g0.at0
  have e1 := g0.at1
  have e2 := g0.at2
  unfold code_stripes_u xcode_stripes_u
  have f0 := x_commit2 (t := t) s0
  simp only [Nat.add_zero, f0, e0, e1, e2]
def xcode_stripes_r (t : TxC) (p : Nat) : List OpD := [⟨1, 0, 6, 0, 0, 0⟩, ⟨2, 0, 4, 6, 0, 0⟩, ⟨1, 0, 3, 0, 0, 16⟩, ⟨3, 13, 4, 3, 0, 0⟩, ⟨7, 0, 4, 0, 0, ((p + 21 : Nat) : Int)⟩, ⟨4, 0, 4, 7, 0, t.base + 6⟩, ⟨3, 10, 4, 6, 0, 0⟩, ⟨1, 0, 3, 0, 0, 1⟩, ⟨3, 6, 4, 3, 0, 0⟩, ⟨7, 0, 4, 0, 0, ((p + 18 : Nat) : Int)⟩] ++ xcode_commit3 t (p + 10) ++ [⟨1, 0, 3, 0, 0, 1⟩, ⟨3, 1, 6, 3, 0, 0⟩, ⟨6, 0, 0, 0, 0, ((p + 1 : Nat) : Int)⟩]
theorem xcode_stripes_r_len (t : TxC) (p : Nat) : (xcode_stripes_r t p).length = 21 := by simp [xcode_stripes_r, xcode_commit3_len]
theorem x_stripes_r (h : Vseg V q (labs_stripes_r p)) : code_stripes_r t V q = xcode_stripes_r t p := by
  unfold labs_stripes_r at h
  have s0 := Vseg.right h (n := 3) (by simp)
  have g0 := Vseg.left h
  have e0 := g0.at0
  have e1 := g0.at1
  have e2 := g0.at2
  unfold code_stripes_r xcode_stripes_r
  have f0 := x_commit3 (t := t) s0
  simp only [Nat.add_zero, f0, e0, e1, e2]
def xcode_locks (t : TxC) (p : Nat) (rel : Int) : List OpD := [⟨1, 0, 2, 0, 0, 0⟩] ++ xcode_entries_l t (p + 1) ++ [⟨5, 0, 7, 2, 0, t.base + 7⟩] ++ xcode_stripes_l t (p + 16) rel
theorem xcode_locks_len (t : TxC) (p : Nat) (rel : Int) : (xcode_locks t p rel).length = 53 := by simp [xcode_locks, xcode_entries_l_len, xcode_stripes_l_len]
theorem x_locks (rel : Nat) (h : Vseg V q (labs_locks p)) : code_locks t V q rel = xcode_locks t p (V rel) := by
  unfold labs_locks at h
  have s1 := Vseg.right h (n := 2) (by simp [labs_entries_l_len])
  have g1 := Vseg.left h
  have s0 := Vseg.right g1 (n := 0) (by simp)
  rw [Nat.add_zero] at s0
  have g0 := Vseg.left g1
  unfold code_locks xcode_locks
  have f0 := x_entries_l (t := t) s0
  have f1 := x_stripes_l (t := t) rel s1
  simp only [Nat.add_zero, f0, f1]
def xcode_validate (t : TxC) (p : Nat) (rel : Int) : List OpD := xcode_stripes_v t (p) rel
theorem xcode_validate_len (t : TxC) (p : Nat) (rel : Int) : (xcode_validate t p rel).length = 35 := by simp [xcode_validate, xcode_stripes_v_len]
theorem x_validate (rel : Nat) (h : Vseg V q (labs_validate p)) : code_validate t V q rel = xcode_validate t p (V rel) := by
  unfold labs_validate at h
  have s0 := Vseg.right h (n := 0) (by simp)
  rw [Nat.add_zero] at s0
  have g0 := Vseg.left h
  unfold code_validate xcode_validate
  have f0 := x_stripes_v (t := t) rel s0
  simp only [Nat.add_zero, f0]
def xcode_commit (t : TxC) (p : Nat) (abort : Int) : List OpD := [⟨4, 0, 0, 7, 0, t.base + 2⟩, ⟨7, 0, 0, 0, 0, ((p + 157 : Nat) : Int)⟩] ++ xcode_locks t (p + 2) ((p + 135 : Nat) : Int) ++ [⟨1, 0, 1, 0, 0, 1⟩, ⟨9, 0, 7, 1, 0, t.words + 1⟩, ⟨1, 0, 4, 0, 0, 1⟩, ⟨3, 1, 1, 4, 0, 0⟩, ⟨5, 0, 7, 1, 0, t.base + 7⟩, ⟨2, 0, 2, 1, 0, 0⟩, ⟨1, 0, 4, 0, 0, 2305843009213693952⟩, ⟨3, 13, 2, 4, 0, 0⟩] ++ xcode_unless t (p + 63) 2 ((p + 66 : Nat) : Int) ++ [⟨13, 0, 0, 0, 0, 7⟩] ++ xcode_validate t (p + 66) ((p + 135 : Nat) : Int) ++ [⟨4, 0, 1, 7, 0, t.base + 7⟩, ⟨1, 0, 2, 0, 0, 1⟩, ⟨12, 0, 1, 2, 0, 7⟩] ++ xcode_entries_c t (p + 104) ++ [⟨4, 0, 1, 7, 0, t.base + 7⟩, ⟨3, 1, 1, 1, 0, 0⟩] ++ xcode_stripes_u t (p + 117) ++ [⟨6, 0, 0, 0, 0, ((p + 159 : Nat) : Int)⟩] ++ xcode_stripes_r t (p + 135) ++ [⟨6, 0, 0, 0, 0, abort⟩, ⟨4, 0, 1, 7, 0, t.base + 0⟩, ⟨12, 0, 1, 7, 0, 7⟩] ++ xcode_tell t (p + 159)
theorem xcode_commit_len (t : TxC) (p : Nat) (abort : Int) : (xcode_commit t p abort).length = 169 := by simp [xcode_commit, xcode_entries_c_len, xcode_locks_len, xcode_stripes_r_len, xcode_stripes_u_len, xcode_tell_len, xcode_unless_len, xcode_validate_len]
theorem x_commit (abort : Nat) (h : Vseg V q (labs_commit p)) : code_commit t V q abort = xcode_commit t p (V abort) := by
  unfold labs_commit at h
  have s6 := Vseg.right h (n := 26) (by simp [labs_locks_len, labs_unless_len, labs_validate_len, labs_entries_c_len, labs_stripes_u_len, labs_stripes_r_len])
  have g6 := Vseg.left h
  have s5 := Vseg.right g6 (n := 23) (by simp [labs_locks_len, labs_unless_len, labs_validate_len, labs_entries_c_len, labs_stripes_u_len])
  have g5 := Vseg.left g6
  have s4 := Vseg.right g5 (n := 20) (by simp [labs_locks_len, labs_unless_len, labs_validate_len, labs_entries_c_len])
  have g4 := Vseg.left g5
  have s3 := Vseg.right g4 (n := 18) (by simp [labs_locks_len, labs_unless_len, labs_validate_len])
  have g3 := Vseg.left g4
  have s2 := Vseg.right g3 (n := 12) (by simp [labs_locks_len, labs_unless_len])
  have g2 := Vseg.left g3
  have s1 := Vseg.right g2 (n := 11) (by simp [labs_locks_len])
  have g1 := Vseg.left g2
  have s0 := Vseg.right g1 (n := 4) (by simp)
  have g0 := Vseg.left g1
  have e0 := g0.at0
  have e1 := g0.at1
  have e2 := g0.at2
  have e3 := g0.at3
  unfold code_commit xcode_commit
  have f0 := x_locks (t := t) q s0
  have f1 := x_unless (t := t) 2 (q + 3) s1
  have f2 := x_validate (t := t) q s2
  have f3 := x_entries_c (t := t) s3
  have f4 := x_stripes_u (t := t) s4
  have f5 := x_stripes_r (t := t) s5
  have f6 := x_tell (t := t) s6
  simp only [Nat.add_zero, f0, f1, f2, f3, f4, f5, f6, e0, e1, e2, e3]
def xcode_begin_ (t : TxC) (p : Nat) : List OpD := [⟨4, 0, 1, 7, 0, t.base + 4⟩, ⟨5, 0, 7, 1, 0, t.base + 5⟩, ⟨5, 0, 7, 7, 0, t.base + 1⟩, ⟨5, 0, 7, 7, 0, t.base + 2⟩, ⟨5, 0, 7, 7, 0, t.base + 3⟩, ⟨5, 0, 7, 7, 0, t.base + 6⟩, ⟨15, 0, 0, 7, 0, t.words + 1⟩, ⟨5, 0, 7, 0, 0, t.base + 0⟩]
theorem xcode_begin__len (t : TxC) (p : Nat) : (xcode_begin_ t p).length = 8 := by simp [xcode_begin_]
theorem x_begin_ (h : Vseg V q (labs_begin_ p)) : code_begin_ t V q = xcode_begin_ t p := by
  unfold code_begin_ xcode_begin_
  rfl
def xcode_once_r (t : TxC) (p : Nat) (oth : Int) (oat : Int) (ov : Int) (abort : Int) : List OpD := [⟨1, 0, 1, 0, 0, oat⟩] ++ xcode_read t (p + 1) abort ++ [⟨4, 0, 1, 7, 0, t.sum⟩, ⟨3, 1, 1, 2, 0, 0⟩, ⟨5, 0, 7, 1, 0, t.sum⟩]
theorem xcode_once_r_len (t : TxC) (p : Nat) (oth : Int) (oat : Int) (ov : Int) (abort : Int) : (xcode_once_r t p oth oat ov abort).length = 48 := by simp [xcode_once_r, xcode_read_len]
theorem x_once_r (oth : Int) (oat : Int) (ov : Int) (abort : Nat) (h : Vseg V q (labs_once_r p)) : code_once_r t V q oth oat ov abort = xcode_once_r t p oth oat ov (V abort) := by
  unfold labs_once_r at h
  have s0 := Vseg.right h (n := 0) (by simp)
  rw [Nat.add_zero] at s0
  have g0 := Vseg.left h
  unfold code_once_r xcode_once_r
  have f0 := x_read (t := t) abort s0
  simp only [Nat.add_zero, f0]
def xcode_once_w (t : TxC) (p : Nat) (oth : Int) (oat : Int) (ov : Int) (abort : Int) : List OpD := [⟨1, 0, 1, 0, 0, oat⟩, ⟨4, 0, 2, 7, 0, t.sum⟩, ⟨1, 0, 3, 0, 0, ov⟩, ⟨3, 1, 2, 3, 0, 0⟩] ++ xcode_write t (p + 4)
theorem xcode_once_w_len (t : TxC) (p : Nat) (oth : Int) (oat : Int) (ov : Int) (abort : Int) : (xcode_once_w t p oth oat ov abort).length = 33 := by simp [xcode_once_w, xcode_write_len]
theorem x_once_w (oth : Int) (oat : Int) (ov : Int) (abort : Nat) (h : Vseg V q (labs_once_w p)) : code_once_w t V q oth oat ov abort = xcode_once_w t p oth oat ov (V abort) := by
  unfold labs_once_w at h
  have s0 := Vseg.right h (n := 0) (by simp)
  rw [Nat.add_zero] at s0
  have g0 := Vseg.left h
  unfold code_once_w xcode_once_w
  have f0 := x_write (t := t) s0
  simp only [Nat.add_zero, f0]
end
section
variable {V : Nat → Int} {c c0 c1 c2 : Cd} {p q n m : Nat} {ls : List Int} {R : List OpD} {t : TxC}
def Adds (n : Nat) (c c' : Cd) : Prop := c'.over = false → c.over = false ∧ c'.ops.length = c.ops.length + n ∧ (0 < n → c.ops.length + n ≤ 262144)
theorem Adds.put (o : OpD) : Adds 1 c (c.put o) := by
  intro h
  unfold Cd.put at h ⊢
  split at h
  · cases h
  · rename_i hl
    rw [if_neg hl]
    exact ⟨h, by simp, fun _ => by omega⟩
theorem Adds.zero_ (h : c1.over = c.over) (hl : c1.ops = c.ops) : Adds 0 c c1 := fun ho => ⟨by rw [← h]; exact ho, by rw [hl]; rfl, fun h => by omega⟩
theorem Adds.label : Adds 0 c c.label := .zero_ rfl rfl
theorem Adds.here (l : Nat) : Adds 0 c (c.here l) := .zero_ rfl rfl
theorem Adds.mark (l : Nat) : Adds 0 c (c.mark l) := .zero_ rfl rfl
theorem Adds.trans (h : Adds n c c1) (g : Adds m c1 c2) : Adds (n + m) c c2 := fun ho => by
  obtain ⟨g1, g2, g3⟩ := g ho
  obtain ⟨h1, h2, h3⟩ := h g1
  refine ⟨h1, by omega, fun hp => ?_⟩
  rcases Nat.eq_zero_or_pos m with e | e
  · have := h3 (by omega); omega
  · have := g3 e; omega
theorem Adds.jump (l : Nat) : Adds 1 c (c.jump l) := (Adds.mark l).trans (Adds.put _)
theorem Adds.zero (r : Int) (l : Nat) : Adds 1 c (c.zero r l) := (Adds.mark l).trans (Adds.put _)
theorem Adds.refl : Adds 0 c c := .zero_ rfl rfl
theorem Adds.pu {o : OpD} (h : Adds n c c1) : Adds (n + 1) c (c1.put o) := h.trans (.put o)
theorem Adds.set {r k : Int} (h : Adds n c c1) : Adds (n + 1) c (c1.set r k) := h.trans (.put _)
theorem Adds.move {r k : Int} (h : Adds n c c1) : Adds (n + 1) c (c1.move r k) := h.trans (.put _)
theorem Adds.calc {q r k : Int} (h : Adds n c c1) : Adds (n + 1) c (c1.calc q r k) := h.trans (.put _)
theorem Adds.with_ {q r k x : Int} (h : Adds n c c1) : Adds (n + 2) c (c1.with_ q r k x) := h.trans ((Adds.put _).trans (.put _))
theorem Adds.load {x y z : Int} (h : Adds n c c1) : Adds (n + 1) c (c1.load x y z) := h.trans (.put _)
theorem Adds.store {x y z : Int} (h : Adds n c c1) : Adds (n + 1) c (c1.store x y z) := h.trans (.put _)
theorem Adds.note {x y z : Int} (h : Adds n c c1) : Adds (n + 1) c (c1.note x y z) := h.trans (.put _)
theorem Adds.trap {x : Int} (h : Adds n c c1) : Adds (n + 1) c (c1.trap x) := h.trans (.put _)
theorem Adds.out {x : Int} (h : Adds n c c1) : Adds (n + 1) c (c1.out x) := h.trans (.put _)
theorem Adds.halt (h : Adds n c c1) : Adds (n + 1) c (c1.halt) := h.trans (.put _)
theorem Adds.get {x y : Int} (h : Adds n c c1) : Adds (n + 1) c (c1.get t x y) := h.trans (.put _)
theorem Adds.sto {x y : Int} (h : Adds n c c1) : Adds (n + 1) c (c1.sto t x y) := h.trans (.put _)
theorem Adds.la (h : Adds n c c1) : Adds n c c1.label := h.trans .label
theorem Adds.he {l : Nat} (h : Adds n c c1) : Adds n c (c1.here l) := h.trans (.here l)
theorem Adds.ju {l : Nat} (h : Adds n c c1) : Adds (n + 1) c (c1.jump l) := h.trans (.jump l)
theorem Adds.ze {r : Int} {l : Nat} (h : Adds n c c1) : Adds (n + 1) c (c1.zero r l) := h.trans (.zero r l)
def EmOpOk (o : OpD) : Prop := checkS o = true ∧ wfOp o
def AllOk (l : List OpD) : Prop := ∀ o ∈ l, EmOpOk o
theorem AllOk.nil : AllOk [] := fun o h => by cases h
theorem AllOk.cons {o : OpD} {l : List OpD} (h : EmOpOk o) (g : AllOk l) : AllOk (o :: l) := fun x hx => by
  rcases List.mem_cons.1 hx with rfl | hx
  · exact h
  · exact g x hx
theorem AllOk.app {l r : List OpD} (h : AllOk l) (g : AllOk r) : AllOk (l ++ r) := fun x hx => by
  rcases List.mem_append.1 hx with hx | hx
  · exact h x hx
  · exact g x hx
def In64 (x : Int) : Prop := -9223372036854775808 ≤ x ∧ x ≤ 9223372036854775807
def InCode (x : Int) : Prop := 0 ≤ x ∧ x ≤ 262144
def RegOk (r : Int) : Prop := 0 ≤ r ∧ r < 8
theorem op_ok {k cal a b c n : Int} (h : checkS ⟨k, cal, a, b, c, n⟩ = true) (hk : 0 ≤ k ∧ k < 256 ∧ 0 ≤ cal ∧ cal < 256 ∧ 0 ≤ a ∧ a < 256 ∧ 0 ≤ b ∧ b < 256 ∧ 0 ≤ c ∧ c < 256 ∧ In64 n) : EmOpOk ⟨k, cal, a, b, c, n⟩ :=
  ⟨h, ⟨hk.1, hk.2.1⟩, ⟨hk.2.2.1, hk.2.2.2.1⟩, ⟨hk.2.2.2.2.1, hk.2.2.2.2.2.1⟩, ⟨hk.2.2.2.2.2.2.1, hk.2.2.2.2.2.2.2.1⟩, ⟨hk.2.2.2.2.2.2.2.2.1, hk.2.2.2.2.2.2.2.2.2.1⟩, hk.2.2.2.2.2.2.2.2.2.2⟩
def s1 (k a b : Int) : Bool := decide (0 ≤ a ∧ a < 8 ∧ 0 ≤ b ∧ b < 8) && (k == 1 && b == 0 || k == 4 || k == 5 || k == 9 || k == 15)
theorem ok_n {k a b n : Int} (hs : s1 k a b = true) (hn : In64 n) : EmOpOk ⟨k, 0, a, b, 0, n⟩ := by
  unfold s1 at hs
  simp only [Bool.and_eq_true, Bool.or_eq_true, decide_eq_true_eq, beq_iff_eq] at hs
  obtain ⟨⟨h1, h2, h3, h4⟩, h5⟩ := hs
  unfold In64 at hn
  refine op_ok ?_ ?_
  · rcases h5 with (((⟨rfl, rfl⟩ | rfl) | rfl) | rfl) | rfl <;> simp [checkS, formS, fm, okReg, okNum] <;> omega
  · unfold In64; rcases h5 with (((⟨rfl, rfl⟩ | rfl) | rfl) | rfl) | rfl <;> omega
def s2 (k a : Int) : Bool := decide (0 ≤ a ∧ a < 8) && (k == 6 && a == 0 || k == 7)
theorem ok_j {k a n : Int} (hs : s2 k a = true) (hn : InCode n) : EmOpOk ⟨k, 0, a, 0, 0, n⟩ := by
  unfold s2 at hs
  simp only [Bool.and_eq_true, Bool.or_eq_true, decide_eq_true_eq, beq_iff_eq] at hs
  obtain ⟨⟨h1, h2⟩, h5⟩ := hs
  unfold InCode at hn
  refine op_ok ?_ ?_
  · rcases h5 with ⟨rfl, rfl⟩ | rfl <;> simp [checkS, formS, fm, okReg, okNum] <;> omega
  · unfold In64; rcases h5 with ⟨rfl, rfl⟩ | rfl <;> omega
theorem AllOk.nu {k a b n : Int} {l : List OpD} (h : AllOk l) (hs : s1 k a b = true := by decide) (hn : In64 n := by unfold In64; omega) : AllOk (⟨k, 0, a, b, 0, n⟩ :: l) := .cons (ok_n hs hn) h
theorem AllOk.ju {k a n : Int} {l : List OpD} (h : AllOk l) (hs : s2 k a = true := by decide) (hn : InCode n := by unfold InCode; omega) : AllOk (⟨k, 0, a, 0, 0, n⟩ :: l) := .cons (ok_j hs hn) h
theorem AllOk.st {k cal a b c n : Int} {l : List OpD} (h : AllOk l) (hs : (checkS ⟨k, cal, a, b, c, n⟩ && decide (0 ≤ k ∧ k < 256 ∧ 0 ≤ cal ∧ cal < 256 ∧ 0 ≤ a ∧ a < 256 ∧ 0 ≤ b ∧ b < 256 ∧ 0 ≤ c ∧ c < 256 ∧ -9223372036854775808 ≤ n ∧ n ≤ 9223372036854775807)) = true := by decide) : AllOk (⟨k, cal, a, b, c, n⟩ :: l) := by
  simp only [Bool.and_eq_true, decide_eq_true_eq] at hs
  exact .cons (op_ok hs.1 hs.2) h
theorem TxOk.u (h : TxOk t) : (0 ≤ t.words ∧ t.words ≤ 262144) ∧ (0 ≤ t.log ∧ t.log ≤ 262144) ∧ (0 ≤ t.prints ∧ t.prints ≤ 262144) ∧ (0 ≤ t.arena ∧ t.arena ≤ 262144) ∧ (0 ≤ t.base ∧ t.base ≤ 262144) ∧ (0 ≤ t.th ∧ t.th ≤ 4) ∧ (0 ≤ t.sum ∧ t.sum ≤ 262144) := ⟨h.words, h.log, h.prints, h.arena, h.base, h.th, h.sum⟩
theorem adds_search (found : Nat) : Adds 12 c0 (c0.search t found) := by
  unfold Cd.search
  dsimp only
  with_reducible exact Adds.refl.la.la.get.he.ze.with_.move.calc.with_.load.calc.ze.ju.he
theorem ok_search {found : Int} (ok : TxOk t) (hp : p + 12 ≤ 262144) (hfound : InCode found) : AllOk (xcode_search t p found) := by
  have q := ok.u
  have gfound := hfound
  unfold InCode at gfound
  unfold xcode_search
  exact (.nu (.ju (.nu (.st (.st (.st (.nu (.st (.nu (.st (.ju (.ju .nil))))))))))))
theorem adds_unless (r : Int) (l : Nat) : Adds 2 c0 (c0.unless t r l) := by
  unfold Cd.unless
  dsimp only
  with_reducible exact Adds.refl.la.ze.ju.he
theorem ok_unless {r : Int} {l : Int} (ok : TxOk t) (hp : p + 2 ≤ 262144) (hr : RegOk r) (hl : InCode l) : AllOk (xcode_unless t p r l) := by
  have q := ok.u
  have gl := hl
  unfold InCode at gl
  unfold xcode_unless
  exact (.cons (op_ok (by unfold RegOk at hr; simp [checkS, formS, fm, okReg, okNum]; omega) (by unfold RegOk at hr; unfold In64; omega)) (.ju .nil))
theorem adds_lock : Adds 3 c0 (c0.lock t) := by
  unfold Cd.lock
  dsimp only
  with_reducible exact Adds.refl.move.with_
theorem ok_lock (ok : TxOk t) (hp : p + 3 ≤ 262144) : AllOk (xcode_lock t p) := by
  have q := ok.u
  unfold xcode_lock
  exact (.st (.nu (.st .nil)))
theorem adds_old : Adds 3 c0 (c0.old t) := by
  unfold Cd.old
  dsimp only
  with_reducible exact Adds.refl.move.with_
theorem ok_old (ok : TxOk t) (hp : p + 3 ≤ 262144) : AllOk (xcode_old t p) := by
  have q := ok.u
  unfold xcode_old
  exact (.st (.nu (.st .nil)))
theorem adds_start : Adds 2 c0 (c0.start t) := by
  unfold Cd.start
  dsimp only
  with_reducible exact Adds.refl.set.sto
theorem ok_start (ok : TxOk t) (hp : p + 2 ≤ 262144) : AllOk (xcode_start t p) := by
  have q := ok.u
  unfold xcode_start
  exact (.nu (.nu .nil))
theorem adds_abort : Adds 3 c0 (c0.abort t) := by
  unfold Cd.abort
  dsimp only
  with_reducible exact Adds.refl.note.get.sto
theorem ok_abort (ok : TxOk t) (hp : p + 3 ≤ 262144) : AllOk (xcode_abort t p) := by
  have q := ok.u
  unfold xcode_abort
  exact (.st (.nu (.nu .nil)))
theorem adds_tell : Adds 10 c0 (c0.tell t) := by
  unfold Cd.tell
  dsimp only
  with_reducible exact Adds.refl.la.la.set.get.he.ze.load.out.with_.with_.ju.he
theorem ok_tell (ok : TxOk t) (hp : p + 10 ≤ 262144) : AllOk (xcode_tell t p) := by
  have q := ok.u
  unfold xcode_tell
  exact (.nu (.nu (.ju (.nu (.st (.nu (.st (.nu (.st (.ju .nil))))))))))
theorem adds_read (abort : Nat) : Adds 44 c0 (c0.read t abort) := by
  unfold Cd.read
  dsimp only
  with_reducible exact ((((Adds.refl.la.la.trans (adds_search _)).move.with_.move.with_.load.move.with_.trans (adds_unless _ _)).move.with_.get.calc.trans (adds_unless _ _)).load.load.calc.trans (adds_unless _ _)).set.calc.get.calc.sto.ju.he.load.he.note
theorem ok_read {abort : Int} (ok : TxOk t) (hp : p + 44 ≤ 262144) (habort : InCode abort) : AllOk (xcode_read t p abort) := by
  have q := ok.u
  have gabort := habort
  unfold InCode at gabort
  unfold xcode_read
  exact (AllOk.app (AllOk.app (AllOk.app (AllOk.app (AllOk.app (AllOk.app (AllOk.app (ok_search ok (by omega) (by unfold InCode; omega)) (.st (.nu (.st (.st (.nu (.st (.nu (.st (.nu (.st .nil))))))))))) (ok_unless ok (by omega) ⟨by decide, by decide⟩ habort)) (.st (.nu (.st (.nu (.st .nil)))))) (ok_unless ok (by omega) ⟨by decide, by decide⟩ habort)) (.nu (.nu (.st .nil)))) (ok_unless ok (by omega) ⟨by decide, by decide⟩ habort)) (.nu (.st (.nu (.st (.nu (.ju (.nu (.st .nil)))))))))
theorem adds_write : Adds 29 c0 (c0.write t) := by
  unfold Cd.write
  dsimp only
  with_reducible exact ((Adds.refl.la.la.la.trans (adds_search _)).get.move.with_.trans (adds_unless _ _)).trap.he.move.calc.with_.store.with_.sto.he.store.he.note
theorem ok_write (ok : TxOk t) (hp : p + 29 ≤ 262144) : AllOk (xcode_write t p) := by
  have q := ok.u
  unfold xcode_write
  exact (AllOk.app (AllOk.app (AllOk.app (ok_search ok (by omega) (by unfold InCode; omega)) (.nu (.st (.nu (.st .nil))))) (ok_unless ok (by omega) ⟨by decide, by decide⟩ (by unfold InCode; omega))) (.st (.st (.st (.nu (.st (.nu (.nu (.st (.nu (.nu (.st .nil))))))))))))
theorem adds_locks1 : Adds 6 c0 (c0.locks1 t) := by
  unfold Cd.locks1
  dsimp only
  with_reducible exact Adds.refl.load.with_.set.calc.calc
theorem ok_locks1 (ok : TxOk t) (hp : p + 6 ≤ 262144) : AllOk (xcode_locks1 t p) := by
  have q := ok.u
  unfold xcode_locks1
  exact (.nu (.nu (.st (.nu (.st (.st .nil))))))
theorem adds_commit1 : Adds 3 c0 (c0.commit1 t) := by
  unfold Cd.commit1
  dsimp only
  with_reducible exact Adds.refl.load.load.store
theorem ok_commit1 (ok : TxOk t) (hp : p + 3 ≤ 262144) : AllOk (xcode_commit1 t p) := by
  have q := ok.u
  unfold xcode_commit1
  exact (.nu (.nu (.nu .nil)))
theorem adds_commit2 : Adds 4 c0 (c0.commit2 t) := by
  unfold Cd.commit2
  dsimp only
  with_reducible exact (Adds.refl.trans adds_lock).store
theorem ok_commit2 (ok : TxOk t) (hp : p + 4 ≤ 262144) : AllOk (xcode_commit2 t p) := by
  have q := ok.u
  unfold xcode_commit2
  exact (AllOk.app (ok_lock ok (by omega)) (.nu .nil))
theorem adds_commit3 : Adds 8 c0 (c0.commit3 t) := by
  unfold Cd.commit3
  dsimp only
  with_reducible exact ((Adds.refl.trans adds_old).load.trans adds_lock).store
theorem ok_commit3 (ok : TxOk t) (hp : p + 8 ≤ 262144) : AllOk (xcode_commit3 t p) := by
  have q := ok.u
  unfold xcode_commit3
  exact (AllOk.app (AllOk.app (AllOk.app (ok_old ok (by omega)) (.nu .nil)) (ok_lock ok (by omega))) (.nu .nil))
theorem adds_locks2 (rel : Nat) : Adds 24 c0 (c0.locks2 t rel) := by
  unfold Cd.locks2
  dsimp only
  with_reducible exact ((((Adds.refl.trans adds_lock).load.move.set.calc.trans (adds_unless _ _)).move.set.pu.calc.trans (adds_unless _ _)).trans adds_old).store.set.calc.get.calc.sto
theorem ok_locks2 {rel : Int} (ok : TxOk t) (hp : p + 24 ≤ 262144) (hrel : InCode rel) : AllOk (xcode_locks2 t p rel) := by
  have q := ok.u
  have grel := hrel
  unfold InCode at grel
  unfold xcode_locks2
  exact (AllOk.app (AllOk.app (AllOk.app (AllOk.app (AllOk.app (AllOk.app (ok_lock ok (by omega)) (.nu (.st (.nu (.st .nil))))) (ok_unless ok (by omega) ⟨by decide, by decide⟩ hrel)) (.st (.nu (.st (.st .nil))))) (ok_unless ok (by omega) ⟨by decide, by decide⟩ hrel)) (ok_old ok (by omega))) (.nu (.nu (.st (.nu (.st (.nu .nil)))))))
theorem adds_valid1 (rel : Nat) : Adds 22 c0 (c0.valid1 t rel) := by
  unfold Cd.valid1
  dsimp only
  with_reducible exact ((((Adds.refl.la.trans adds_lock).load.move.with_.ze.with_.trans (adds_unless _ _)).trans adds_old).load.he.with_.get.calc.trans (adds_unless _ _))
theorem ok_valid1 {rel : Int} (ok : TxOk t) (hp : p + 22 ≤ 262144) (hrel : InCode rel) : AllOk (xcode_valid1 t p rel) := by
  have q := ok.u
  have grel := hrel
  unfold InCode at grel
  unfold xcode_valid1
  exact (AllOk.app (AllOk.app (AllOk.app (AllOk.app (AllOk.app (ok_lock ok (by omega)) (.nu (.st (.nu (.st (.ju (.nu (.st .nil)))))))) (ok_unless ok (by omega) ⟨by decide, by decide⟩ hrel)) (ok_old ok (by omega))) (.nu (.nu (.st (.nu (.st .nil)))))) (ok_unless ok (by omega) ⟨by decide, by decide⟩ hrel))
theorem adds_entries_l : Adds 14 c0 (c0.entries_l t) := by
  unfold Cd.entries_l
  dsimp only
  with_reducible exact (Adds.refl.la.la.get.set.he.ze.trans adds_locks1).with_.with_.ju.he
theorem ok_entries_l (ok : TxOk t) (hp : p + 14 ≤ 262144) : AllOk (xcode_entries_l t p) := by
  have q := ok.u
  unfold xcode_entries_l
  exact (AllOk.app (AllOk.app (.nu (.nu (.ju .nil))) (ok_locks1 ok (by omega))) (.nu (.st (.nu (.st (.ju .nil))))))
theorem adds_entries_c : Adds 11 c0 (c0.entries_c t) := by
  unfold Cd.entries_c
  dsimp only
  with_reducible exact (Adds.refl.la.la.get.set.he.ze.trans adds_commit1).with_.with_.ju.he
theorem ok_entries_c (ok : TxOk t) (hp : p + 11 ≤ 262144) : AllOk (xcode_entries_c t p) := by
  have q := ok.u
  unfold xcode_entries_c
  exact (AllOk.app (AllOk.app (.nu (.nu (.ju .nil))) (ok_commit1 ok (by omega))) (.nu (.st (.nu (.st (.ju .nil))))))
theorem adds_stripes_l (rel : Nat) : Adds 37 c0 (c0.stripes_l t rel) := by
  unfold Cd.stripes_l
  dsimp only
  with_reducible exact (Adds.refl.la.la.la.set.he.move.with_.ze.get.calc.with_.ze.trans (adds_locks2 _)).he.with_.ju.he
theorem ok_stripes_l {rel : Int} (ok : TxOk t) (hp : p + 37 ≤ 262144) (hrel : InCode rel) : AllOk (xcode_stripes_l t p rel) := by
  have q := ok.u
  have grel := hrel
  unfold InCode at grel
  unfold xcode_stripes_l
  exact (AllOk.app (AllOk.app (.nu (.st (.nu (.st (.ju (.nu (.st (.nu (.st (.ju .nil)))))))))) (ok_locks2 ok (by omega) hrel)) (.nu (.st (.ju .nil))))
theorem adds_stripes_v (rel : Nat) : Adds 35 c0 (c0.stripes_v t rel) := by
  unfold Cd.stripes_v
  dsimp only
  with_reducible exact (Adds.refl.la.la.la.set.he.move.with_.ze.get.calc.with_.ze.trans (adds_valid1 _)).he.with_.ju.he
theorem ok_stripes_v {rel : Int} (ok : TxOk t) (hp : p + 35 ≤ 262144) (hrel : InCode rel) : AllOk (xcode_stripes_v t p rel) := by
  have q := ok.u
  have grel := hrel
  unfold InCode at grel
  unfold xcode_stripes_v
  exact (AllOk.app (AllOk.app (.nu (.st (.nu (.st (.ju (.nu (.st (.nu (.st (.ju .nil)))))))))) (ok_valid1 ok (by omega) hrel)) (.nu (.st (.ju .nil))))
theorem adds_stripes_u : Adds 17 c0 (c0.stripes_u t) := by
  unfold Cd.stripes_u
  dsimp only
  with_reducible exact (Adds.refl.la.la.la.set.he.move.with_.ze.get.calc.with_.ze.trans adds_commit2).he.with_.ju.he
theorem ok_stripes_u (ok : TxOk t) (hp : p + 17 ≤ 262144) : AllOk (xcode_stripes_u t p) := by
  have q := ok.u
  unfold xcode_stripes_u
  exact (AllOk.app (AllOk.app (.nu (.st (.nu (.st (.ju (.nu (.st (.nu (.st (.ju .nil)))))))))) (ok_commit2 ok (by omega))) (.nu (.st (.ju .nil))))
theorem adds_stripes_r : Adds 21 c0 (c0.stripes_r t) := by
  unfold Cd.stripes_r
  dsimp only
  with_reducible exact (Adds.refl.la.la.la.set.he.move.with_.ze.get.calc.with_.ze.trans adds_commit3).he.with_.ju.he
theorem ok_stripes_r (ok : TxOk t) (hp : p + 21 ≤ 262144) : AllOk (xcode_stripes_r t p) := by
  have q := ok.u
  unfold xcode_stripes_r
  exact (AllOk.app (AllOk.app (.nu (.st (.nu (.st (.ju (.nu (.st (.nu (.st (.ju .nil)))))))))) (ok_commit3 ok (by omega))) (.nu (.st (.ju .nil))))
theorem adds_locks (rel : Nat) : Adds 53 c0 (c0.locks t rel) := by
  unfold Cd.locks
  dsimp only
  with_reducible exact ((Adds.refl.set.trans adds_entries_l).sto.trans (adds_stripes_l _))
theorem ok_locks {rel : Int} (ok : TxOk t) (hp : p + 53 ≤ 262144) (hrel : InCode rel) : AllOk (xcode_locks t p rel) := by
  have q := ok.u
  have grel := hrel
  unfold InCode at grel
  unfold xcode_locks
  exact (AllOk.app (AllOk.app (AllOk.app (.nu .nil) (ok_entries_l ok (by omega))) (.nu .nil)) (ok_stripes_l ok (by omega) hrel))
theorem adds_validate (rel : Nat) : Adds 35 c0 (c0.validate t rel) := by
  unfold Cd.validate
  dsimp only
  with_reducible exact (Adds.refl.trans (adds_stripes_v _))
theorem ok_validate {rel : Int} (ok : TxOk t) (hp : p + 35 ≤ 262144) (hrel : InCode rel) : AllOk (xcode_validate t p rel) := by
  have q := ok.u
  have grel := hrel
  unfold InCode at grel
  unfold xcode_validate
  exact (ok_stripes_v ok (by omega) hrel)
theorem adds_commit (abort : Nat) : Adds 169 c0 (c0.commit t abort) := by
  unfold Cd.commit
  dsimp only
  with_reducible exact (((((((Adds.refl.la.la.la.la.get.ze.trans (adds_locks _)).set.pu.with_.sto.move.with_.trans (adds_unless _ _)).trap.he.trans (adds_validate _)).get.set.note.trans adds_entries_c).get.calc.trans adds_stripes_u).ju.he.trans adds_stripes_r).ju.he.get.note.he.trans adds_tell)
theorem ok_commit {abort : Int} (ok : TxOk t) (hp : p + 169 ≤ 262144) (habort : InCode abort) : AllOk (xcode_commit t p abort) := by
  have q := ok.u
  have gabort := habort
  unfold InCode at gabort
  unfold xcode_commit
  exact (AllOk.app (AllOk.app (AllOk.app (AllOk.app (AllOk.app (AllOk.app (AllOk.app (AllOk.app (AllOk.app (AllOk.app (AllOk.app (AllOk.app (AllOk.app (.nu (.ju .nil)) (ok_locks ok (by omega) (by unfold InCode; omega))) (.nu (.nu (.nu (.st (.nu (.st (.nu (.st .nil))))))))) (ok_unless ok (by omega) ⟨by decide, by decide⟩ (by unfold InCode; omega))) (.st .nil)) (ok_validate ok (by omega) (by unfold InCode; omega))) (.nu (.nu (.st .nil)))) (ok_entries_c ok (by omega))) (.nu (.st .nil))) (ok_stripes_u ok (by omega))) (.ju .nil)) (ok_stripes_r ok (by omega))) (.ju (.nu (.st .nil)))) (ok_tell ok (by omega)))
theorem adds_begin_ : Adds 8 c0 (c0.begin_ t) := by
  unfold Cd.begin_
  dsimp only
  with_reducible exact Adds.refl.get.sto.sto.sto.sto.sto.pu.sto
theorem ok_begin_ (ok : TxOk t) (hp : p + 8 ≤ 262144) : AllOk (xcode_begin_ t p) := by
  have q := ok.u
  unfold xcode_begin_
  exact (.nu (.nu (.nu (.nu (.nu (.nu (.nu (.nu .nil))))))))
theorem adds_once_r (oth : Int) (oat : Int) (ov : Int) (abort : Nat) : Adds 48 c0 (c0.once_r t oth oat ov abort) := by
  unfold Cd.once_r
  dsimp only
  with_reducible exact (Adds.refl.set.trans (adds_read _)).load.calc.store
theorem adds_once_w (oth : Int) (oat : Int) (ov : Int) (abort : Nat) : Adds 33 c0 (c0.once_w t oth oat ov abort) := by
  unfold Cd.once_w
  dsimp only
  with_reducible exact (Adds.refl.set.load.with_.trans adds_write)
end
end Go.Proofs.YtgodmogkhgilmaaGreatDoor

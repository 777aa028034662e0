/- Package play: Tail's loop. -/
import Derived.Test.YtopdcjimpdalpaaGreatPlayB
import Derived.OwnWalk
namespace Go.Proofs.YtopdcjimpdalpaaGreat
open Go.RowKit
set_option linter.unusedVariables false
set_option linter.unusedSimpArgs false

variable {w w' : World} {base : Nat}

structure TwoVar (w0 w : World) (xa xb : Nat) (A B : List PickD) (va vb : Value) : Prop where
  a : RowVar w w0.heap.size xa A va
  b : RowVar w w0.heap.size xb B vb
  ab : va.ownBlock ≠ some xb
  ba : vb.ownBlock ≠ some xa
  rows : ∀ g, va.ownBlock = some g → vb.ownBlock ≠ some g
  ne : xa ≠ xb
  la : w0.heap.size ≤ xa
  lb : w0.heap.size ≤ xb
  old : Below w0.heap.size w0 w
theorem TwoVar.swap {w0 w : World} {xa xb : Nat} {A B : List PickD} {va vb : Value} (h : TwoVar w0 w xa xb A B va vb) : TwoVar w0 w xb xa B A vb va :=
  ⟨h.b, h.a, h.ba, h.ab, fun g h1 h2 => h.rows g h2 h1, h.ne.symm, h.lb, h.la, h.old⟩
theorem TwoVar.below {w0 w w' : World} {xa xb : Nat} {A B : List PickD} {va vb : Value} (h : TwoVar w0 w xa xb A B va vb) (hb : Below w.heap.size w w') : TwoVar w0 w' xa xb A B va vb :=
  ⟨h.a.keep fun g _ hl => hb.block g hl, h.b.keep fun g _ hl => hb.block g hl, h.ab, h.ba, h.rows, h.ne, h.la, h.lb, h.old.trans (hb.mono h.old.size)⟩

/-- a block beside them -/
structure Aside (w : World) (P : Nat) (o : Obj) (xa xb : Nat) (va vb : Value) : Prop where
  blk : w.heap[P]? = some o
  na : va.ownBlock ≠ some P
  nb : vb.ownBlock ≠ some P
  n1 : P ≠ xa
  n2 : P ≠ xb
theorem Aside.swap {w : World} {P : Nat} {o : Obj} {xa xb : Nat} {va vb : Value} (h : Aside w P o xa xb va vb) : Aside w P o xb xa vb va := ⟨h.blk, h.nb, h.na, h.n2, h.n1⟩

theorem snoc_ind {α : Type} {P : List α → Prop} (h0 : P []) (h1 : ∀ l x, P l → P (l ++ [x])) (l : List α) : P l := by
  rw [← List.reverse_reverse l]
  induction l.reverse with
  | nil => exact h0
  | cons x r ih => rw [List.reverse_cons]; exact h1 _ _ ih
/-- one pick is parted: so many of it on the first side -/
def tailStep (p : PickD) (here : Int) (A B : List PickD) : List PickD × List PickD :=
  if p.kind = 2 then (putS (putS A 2 p.th (here / 2)) 0 p.th (here % 2), putS (putS B 1 p.th (here % 2)) 2 p.th (p.n - (here + 1) / 2))
  else (putS A p.kind p.th here, putS B p.kind p.th (p.n - here))
def tailNext (p : PickD) (s : Int × List PickD × List PickD) : Int × List PickD × List PickD :=
  (s.1 - min s.1 (plen p), tailStep p (min s.1 (plen p)) s.2.1 s.2.2)
def tailSt (first : Int) (l : List PickD) : Int × List PickD × List PickD := l.foldl (fun s p => tailNext p s) (first, [], [])
theorem tailSt_snoc (first : Int) (l : List PickD) (p : PickD) : tailSt first (l ++ [p]) = tailNext p (tailSt first l) := by simp [tailSt]

theorem tailStep_len (p : PickD) (here : Int) (A B : List PickD) : (tailStep p here A B).1.length ≤ A.length + 2 ∧ (tailStep p here A B).2.length ≤ B.length + 2 := by
  unfold tailStep
  split
  · have h1 := putS_len A 2 p.th (here / 2)
    have h2 := putS_len (putS A 2 p.th (here / 2)) 0 p.th (here % 2)
    have h3 := putS_len B 1 p.th (here % 2)
    have h4 := putS_len (putS B 1 p.th (here % 2)) 2 p.th (p.n - (here + 1) / 2)
    simp only
    omega
  · have h1 := putS_len A p.kind p.th here
    have h2 := putS_len B p.kind p.th (p.n - here)
    simp only
    omega
theorem tailSt_len (first : Int) (l : List PickD) : (tailSt first l).2.1.length ≤ 2 * l.length ∧ (tailSt first l).2.2.length ≤ 2 * l.length := by
  refine snoc_ind (P := fun l => (tailSt first l).2.1.length ≤ 2 * l.length ∧ (tailSt first l).2.2.length ≤ 2 * l.length) (by simp [tailSt]) (fun l p ih => ?_) l
  · rw [tailSt_snoc]
    have := tailStep_len p (min (tailSt first l).1 (plen p)) (tailSt first l).2.1 (tailSt first l).2.2
    simp only [tailNext, List.length_append, List.length_singleton]
    omega
theorem tailSt_first {first : Int} (h0 : 0 ≤ first) (l : List PickD) (hb : l.any pbad = false) : 0 ≤ (tailSt first l).1 ∧ (tailSt first l).1 ≤ first := by
  revert hb
  refine snoc_ind (P := fun l => l.any pbad = false → 0 ≤ (tailSt first l).1 ∧ (tailSt first l).1 ≤ first) (fun _ => by simp [tailSt]; omega) (fun l p ih hb => ?_) l
  · rw [tailSt_snoc]
    rw [List.any_append, Bool.or_eq_false_iff] at hb
    have h1 := ih hb.1
    have h2 : 0 ≤ plen p := plen_ge (by simpa using hb.2)
    simp only [tailNext]
    omega

/-- Tail: both sides, or a refusal -/
def tailE (l : List PickD) (first : Int) : Int := if (lengthS l).2 ≠ 0 then (lengthS l).2 else if first < 0 ∨ (lengthS l).1 < first then 1 else 0

theorem lengthS_ok {l : List PickD} (h : (lengthS l).2 = 0) : l.length ≤ 65536 ∧ l.any pbad = false ∧ total l ≤ 1048576 ∧ (lengthS l).1 = total l := by
  unfold lengthS at h ⊢
  split at h
  · cases h
  split at h
  · cases h
  split at h
  · cases h
  rename_i h1 h2 h3
  rw [if_neg h1, if_neg h2, if_neg h3]
  exact ⟨by omega, by simpa using h2, by omega, rfl⟩

end Go.Proofs.YtopdcjimpdalpaaGreat

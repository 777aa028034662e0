/- Package play: Tail. -/
import Derived.Test.YtmjppdlhglkelaaGreatDoorPlayA
import Derived.Test.YtmjppdlhglkelaaGreatDoorMake
import Derived.Test.YtmjppdlhglkelaaGreatDoorBookR
namespace Go.Proofs.YtmjppdlhglkelaaGreatDoor
open Go.RowKit
set_option linter.unusedVariables false
set_option linter.unusedSimpArgs false

variable {w w' : World} {base : Nat}

theorem pkInfo : (Tryz.prog.info? 66).map (fun i => (i.zero, i.size, i.bytes)) = some (some (.agg #[.int .u8 0, .int .i64 0, .int .i64 0]), 3, 24) := by kernel_rfl
theorem one_pk (p : PickD) : ∀ u ∈ encPk p, u.oneCell' = true := by
  intro u hu
  simp [encPk] at hu
  rcases hu with rfl | rfl | rfl <;> rfl

def putS (l : List PickD) (k th n : Int) : List PickD := if 0 < n then l ++ [⟨k, th, n⟩] else l
theorem putS_len (l : List PickD) (k th n : Int) : l.length ≤ (putS l k th n).length ∧ (putS l k th n).length ≤ l.length + 1 := by unfold putS; split <;> simp

/-- a variable that a slice stands in, of its own -/
structure RowVar (w : World) (base x : Nat) (l : List PickD) (v : Value) : Prop where
  box : w.heap[x]? = some (.cells #[v] 22 (0, 0))
  row : w.ownsRow base 66 3 v l.length (l.flatMap encPk)
  ne : v.ownBlock ≠ some x
theorem RowVar.keep {x : Nat} {l : List PickD} {v : Value} (h : RowVar w base x l v) (hk : ∀ g, g = x ∨ v.ownBlock = some g → g < w.heap.size → w'.heap[g]? = w.heap[g]?) : RowVar w' base x l v :=
  ⟨(hk x (.inl rfl) (lt_of_block h.box)).trans h.box, ownRow_keep h.row fun g hg hl => hk g (.inr hg) hl, h.ne⟩
def PutPk (base x : Nat) (l : List PickD) (v : Value) (w w' : World) : Prop :=
  ∃ v', RowVar w' base x l v' ∧ (∀ g, v'.ownBlock = some g → v.ownBlock = some g ∨ w.heap.size ≤ g)

set_option maxHeartbeats 1000000 in
theorem put_pick {x : Nat} {l : List PickD} {v : Value} (h : RowVar w base x l v) (hb : base ≤ w.heap.size) (hl : l.length ≤ 1000000) (k th n : Int) :
    Calls Tryz.prog 17 #[.pointer (some ⟨x, 0, none⟩), .int .u8 k, .int .i64 th, .int .i64 n] w fun e w' => e = .returned (.tuple #[]) ∧ PutPk base x (putS l k th n) v w w' ∧ Chg (fun k => k = x ∨ v.ownBlock = some k) w w' := by
  obtain ⟨i0, hi, hz0, hz1, hz2⟩ := info_parts pkInfo
  have c0 := cell_of_block (o := 0) h.box rfl
  have H := hidI h
  clear h
  by_cases hn : n > 0
  · go_enter Tryz.func17, Tryz.ntmps17
    go_wp2_with (at_builtin; refine wpList_append_d _ rfl _ _ 22 rfl base 66 i0 _ 3 24 Tryz.underlying22 hi hz0 hz1 hz2 rfl (by decide) _ _ _ rfl (ownsRow_chg H.out.row ((Chg.refl (fun _ => False) w).alloc _) (fun _ _ => id)) ⟨w.heap.size, 0, none⟩ 1 1 (encPk ⟨k, th, n⟩) rfl rfl ?c1 ?c2 ?c3 ?c4 ?c5 ?_)
    case c1 => exact news_at (block_new _ _)
    case c2 => exact one_pk _
    case c3 => unfold maxLen; omega
    case c4 => omega
    case c5 => simp; omega
    intro ao cp w1 hown hfrom hgrown
    have hc := Chg.grown (S := fun k => v.ownBlock = some k) ((Chg.refl _ w).alloc (.cells (encPk ⟨k, th, n⟩).toArray 66)) hgrown (fun k hk => .inl hk)
    have hb1 := chgblk hc H.out.box (fun hk => H.out.ne hk)
    have f1 := free_of_block (o := 0) hb1
    have f2 : w1.cell? ⟨x, 0, none⟩ = some v := cell_of_block hb1 rfl
    have HB := hidI hb1
    have HC := hidI hc
    have HO := hidI hown
    have HF := hidI hfrom
    clear hb1 hc hown hfrom hgrown hi hz0 hz1 hz2
    go_wp2_with fail
    have hset := block_setCell (o := 0) (.slice ao (l.length + 1) cp) HB.out
    have hne : ∀ g, (Value.slice ao (l.length + 1) cp).ownBlock = some g → v.ownBlock = some g ∨ w.heap.size ≤ g := fun g hg => by
      rcases HF.out g hg with e | e
      · exact .inl e
      · exact .inr (by omega)
    have hnx : ∀ g, (Value.slice ao (l.length + 1) cp).ownBlock = some g → g ≠ x := fun g hg e => by
      subst e
      rcases hne g hg with h1 | h1
      · exact H.out.ne h1
      · have := lt_of_block H.out.box; omega
    have hchg : Chg (fun k => k = x ∨ v.ownBlock = some k) w (w1.setCell ⟨x, 0, none⟩ (.slice ao (l.length + 1) cp)) :=
      (Chg.then_ (S := fun k => k = x ∨ v.ownBlock = some k) (Chg.refl _ w) HC.out (fun k _ hk => .inr hk)).setCell (p := ⟨x, 0, none⟩) (.inl (.inl rfl)) _
    go_end0
    refine ⟨rfl, ⟨.slice ao (l.length + 1) cp, ?_, hne⟩, hchg⟩
    unfold putS
    rw [if_pos (by omega)]
    refine ⟨hset, ?_, fun e => hnx x e rfl⟩
    rw [List.length_append, flat_snoc]
    exact ownRow_keep HO.out fun g hg hlt => Below.heap_setCell _ _ _ _ (fun e => hnx g hg e)
  · go_enter Tryz.func17, Tryz.ntmps17
    go_wp2_with fail
    go_end0
    refine ⟨rfl, ⟨v, ?_, fun g hg => .inl hg⟩, Chg.refl _ _⟩
    unfold putS
    rw [if_neg (by omega)]
    exact H.out
end Go.Proofs.YtmjppdlhglkelaaGreatDoor

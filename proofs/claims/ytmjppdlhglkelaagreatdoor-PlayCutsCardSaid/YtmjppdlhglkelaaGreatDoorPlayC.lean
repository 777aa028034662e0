/- Package play: Tail's loop. -/
import Derived.Test.YtmjppdlhglkelaaGreatDoorPlayB
import Derived.OwnWalk
namespace Go.Proofs.YtmjppdlhglkelaaGreatDoor
open Go.RowKit
set_option linter.unusedVariables false
set_option linter.unusedSimpArgs false

variable {w w' : World} {base : Nat}

structure TwoVar (w0 w : World) (xa xb : Nat) (A B : List PickD) (va vb : Value) : Prop where
  a : RowVar w w0.heap.size xa A va
  b : RowVar w w0.heap.size xb B vb
  ab : va.ownBlock ≠ some xb
  ba : vb.ownBlock ≠ some xa
  rows : ∀ g, va.ownBlock = some g → vb.ownBlock ≠ some g
  ne : xa ≠ xb
  la : w0.heap.size ≤ xa
  lb : w0.heap.size ≤ xb
  old : Below w0.heap.size w0 w
theorem TwoVar.swap {w0 w : World} {xa xb : Nat} {A B : List PickD} {va vb : Value} (h : TwoVar w0 w xa xb A B va vb) : TwoVar w0 w xb xa B A vb va :=
  ⟨h.b, h.a, h.ba, h.ab, fun g h1 h2 => h.rows g h2 h1, h.ne.symm, h.lb, h.la, h.old⟩
theorem TwoVar.below {w0 w w' : World} {xa xb : Nat} {A B : List PickD} {va vb : Value} (h : TwoVar w0 w xa xb A B va vb) (hb : Below w.heap.size w w') : TwoVar w0 w' xa xb A B va vb :=
  ⟨h.a.keep fun g _ hl => hb.block g hl, h.b.keep fun g _ hl => hb.block g hl, h.ab, h.ba, h.rows, h.ne, h.la, h.lb, h.old.trans (hb.mono h.old.size)⟩

/-- a block beside them -/
structure Aside (w : World) (P : Nat) (o : Obj) (xa xb : Nat) (va vb : Value) : Prop where
  blk : w.heap[P]? = some o
  na : va.ownBlock ≠ some P
  nb : vb.ownBlock ≠ some P
  n1 : P ≠ xa
  n2 : P ≠ xb
theorem Aside.swap {w : World} {P : Nat} {o : Obj} {xa xb : Nat} {va vb : Value} (h : Aside w P o xa xb va vb) : Aside w P o xb xa vb va := ⟨h.blk, h.nb, h.na, h.n2, h.n1⟩

/-- put on the first of them -/
theorem put_a {w0 w : World} {xa xb P : Nat} {o : Obj} {A B : List PickD} {va vb : Value} (h : TwoVar w0 w xa xb A B va vb) (hp : Aside w P o xa xb va vb) (hl : A.length ≤ 1000000) (k th n : Int) :
    Calls Tryz.prog 17 #[.pointer (some ⟨xa, 0, none⟩), .int .u8 k, .int .i64 th, .int .i64 n] w fun e w' => e = .returned (.tuple #[]) ∧ ∃ va', TwoVar w0 w' xa xb (putS A k th n) B va' vb ∧ Aside w' P o xa xb va' vb := by
  refine (put_pick h.a h.old.size hl k th n).mono ?_
  rintro e w' ⟨rfl, ⟨v', hv, hf⟩, hc⟩
  have hb : RowVar w' w0.heap.size xb B vb := h.b.keep fun g hg hl => hc.block g hl (fun e => by
    rcases hg with rfl | hg
    · rcases e with e | e
      · exact h.ne e.symm
      · exact h.ab e
    · rcases e with rfl | e
      · exact h.ba hg
      · exact h.rows g e hg)
  have hlb := lt_of_block h.b.box
  have hlp := lt_of_block hp.blk
  refine ⟨rfl, v', ⟨hv, hb, fun e => ?_, h.ba, fun g hg hg2 => ?_, h.ne, h.la, h.lb, ?_⟩, (hc.block P hlp (fun e => ?_)).trans hp.blk, fun e => ?_, hp.nb, hp.n1, hp.n2⟩
  · rcases hf xb e with e | e
    · exact h.ab e
    · omega
  · rcases hf g hg with e | e
    · exact h.rows g e hg2
    · have := (rowLt h.b.row hg2).2; omega
  · refine Chg.below h.old h.old.size hc (fun k hk => ?_)
    rcases hk with rfl | hk
    · exact h.la
    · exact (rowLt h.a.row hk).1
  · rcases e with e | e
    · exact hp.n1 e
    · exact hp.na e
  · rcases hf P e with e | e
    · exact hp.na e
    · omega
theorem put_b {w0 w : World} {xa xb P : Nat} {o : Obj} {A B : List PickD} {va vb : Value} (h : TwoVar w0 w xa xb A B va vb) (hp : Aside w P o xa xb va vb) (hl : B.length ≤ 1000000) (k th n : Int) :
    Calls Tryz.prog 17 #[.pointer (some ⟨xb, 0, none⟩), .int .u8 k, .int .i64 th, .int .i64 n] w fun e w' => e = .returned (.tuple #[]) ∧ ∃ vb', TwoVar w0 w' xa xb A (putS B k th n) va vb' ∧ Aside w' P o xa xb va vb' := by
  refine (put_a h.swap hp.swap hl k th n).mono ?_
  rintro e w' ⟨rfl, v', h', hp'⟩
  exact ⟨rfl, v', h'.swap, hp'.swap⟩

theorem snoc_ind {α : Type} {P : List α → Prop} (h0 : P []) (h1 : ∀ l x, P l → P (l ++ [x])) (l : List α) : P l := by
  rw [← List.reverse_reverse l]
  induction l.reverse with
  | nil => exact h0
  | cons x r ih => rw [List.reverse_cons]; exact h1 _ _ ih
/-- one pick is parted: so many of it on the first side -/
def tailStep (p : PickD) (here : Int) (A B : List PickD) : List PickD × List PickD :=
  if p.kind = 2 then (putS (putS A 2 p.th (here / 2)) 0 p.th (here % 2), putS (putS B 1 p.th (here % 2)) 2 p.th (p.n - (here + 1) / 2))
  else (putS A p.kind p.th here, putS B p.kind p.th (p.n - here))
def tailNext (p : PickD) (s : Int × List PickD × List PickD) : Int × List PickD × List PickD :=
  (s.1 - min s.1 (plen p), tailStep p (min s.1 (plen p)) s.2.1 s.2.2)
def tailSt (first : Int) (l : List PickD) : Int × List PickD × List PickD := l.foldl (fun s p => tailNext p s) (first, [], [])
theorem tailSt_snoc (first : Int) (l : List PickD) (p : PickD) : tailSt first (l ++ [p]) = tailNext p (tailSt first l) := by simp [tailSt]

theorem tailStep_len (p : PickD) (here : Int) (A B : List PickD) : (tailStep p here A B).1.length ≤ A.length + 2 ∧ (tailStep p here A B).2.length ≤ B.length + 2 := by
  unfold tailStep
  split
  · have h1 := putS_len A 2 p.th (here / 2)
    have h2 := putS_len (putS A 2 p.th (here / 2)) 0 p.th (here % 2)
    have h3 := putS_len B 1 p.th (here % 2)
    have h4 := putS_len (putS B 1 p.th (here % 2)) 2 p.th (p.n - (here + 1) / 2)
    simp only
    omega
  · have h1 := putS_len A p.kind p.th here
    have h2 := putS_len B p.kind p.th (p.n - here)
    simp only
    omega
theorem tailSt_len (first : Int) (l : List PickD) : (tailSt first l).2.1.length ≤ 2 * l.length ∧ (tailSt first l).2.2.length ≤ 2 * l.length := by
  refine snoc_ind (P := fun l => (tailSt first l).2.1.length ≤ 2 * l.length ∧ (tailSt first l).2.2.length ≤ 2 * l.length) (by simp [tailSt]) (fun l p ih => ?_) l
  · rw [tailSt_snoc]
    have := tailStep_len p (min (tailSt first l).1 (plen p)) (tailSt first l).2.1 (tailSt first l).2.2
    simp only [tailNext, List.length_append, List.length_singleton]
    omega
theorem tailSt_first {first : Int} (h0 : 0 ≤ first) (l : List PickD) (hb : l.any pbad = false) : 0 ≤ (tailSt first l).1 ∧ (tailSt first l).1 ≤ first := by
  revert hb
  refine snoc_ind (P := fun l => l.any pbad = false → 0 ≤ (tailSt first l).1 ∧ (tailSt first l).1 ≤ first) (fun _ => by simp [tailSt]; omega) (fun l p ih hb => ?_) l
  · rw [tailSt_snoc]
    rw [List.any_append, Bool.or_eq_false_iff] at hb
    have h1 := ih hb.1
    have h2 : 0 ≤ plen p := plen_ge (by simpa using hb.2)
    simp only [tailNext]
    omega

/-- Tail: both sides, or a refusal -/
def tailE (l : List PickD) (first : Int) : Int := if (lengthS l).2 ≠ 0 then (lengthS l).2 else if first < 0 ∨ (lengthS l).1 < first then 1 else 0

theorem lengthS_ok {l : List PickD} (h : (lengthS l).2 = 0) : l.length ≤ 65536 ∧ l.any pbad = false ∧ total l ≤ 1048576 ∧ (lengthS l).1 = total l := by
  unfold lengthS at h ⊢
  split at h
  · cases h
  split at h
  · cases h
  split at h
  · cases h
  rename_i h1 h2 h3
  rw [if_neg h1, if_neg h2, if_neg h3]
  exact ⟨by omega, by simpa using h2, by omega, rfl⟩

set_option maxRecDepth 100000 in
set_option maxHeartbeats 2000000 in
theorem tail_no {ao : Option Addr} {cap : Nat} {l : List PickD} (h : RdT encPk w 3 (.slice ao l.length cap) l) (hm : l.length ≤ 9000000000000) (hn : ∀ p ∈ l, -9223372036854775808 ≤ p.n ∧ 0 ≤ p.kind) (first : Int) (he : tailE l first ≠ 0) :
    Calls Tryz.prog 7 #[.slice ao l.length cap, .int .i64 first] w fun e w' => e = .returned (.tuple #[.slice none 0 0, .slice none 0 0, .int .i64 (tailE l first)]) ∧ Below w.heap.size w w' := by
  have H := hidI h
  have HN := hidI hn
  have HE := hidI he
  clear h hn he
  go_enter Tryz.func7, Tryz.ntmps7
  go_wp2_with fail
  refine (length_any H.out hm HN.out).mono ?_
  rintro e w1 ⟨rfl, hb⟩
  have HB := hidI hb
  clear hb
  by_cases h1 : (lengthS l).2 = 0
  · have HN1 := hidI (lengthS_ok h1)
    have he2 : tailE l first = 1 := by
      have := HE.out
      unfold tailE at this ⊢
      rw [if_neg (by simpa using h1)] at this ⊢
      split
      · rfl
      · rename_i h2; rw [if_neg h2] at this; exact absurd rfl this
    have h2 : first < 0 ∨ (lengthS l).1 < first := by
      have := HE.out
      unfold tailE at this
      rw [if_neg (by simpa using h1)] at this
      exact Classical.byContradiction fun hc => this (if_neg hc)
    have HE2 := hidI he2
    rw [h1]
    clear he2 h1
    generalize (lengthS l).1 = n at h2 ⊢
    by_cases h3 : first < 0
    · clear h2
      go_wp2_with fail
      go_ret3
      rw [HE2.out]
      exact ⟨rfl, HB.out⟩
    · have h4 : first > n := by omega
      clear h2
      go_wp2_with fail
      go_ret3
      rw [HE2.out]
      exact ⟨rfl, HB.out⟩
  · have he2 : tailE l first = (lengthS l).2 := by unfold tailE; rw [if_pos h1]
    have HE2 := hidI he2
    clear he2
    generalize (lengthS l).1 = n at *
    generalize (lengthS l).2 = er at *
    have h3 : (er == 0) = false := by simpa using h1
    go_wp2_with fail
    go_ret3
    rw [HE2.out]
    exact ⟨rfl, HB.out⟩

set_option maxRecDepth 100000 in
set_option maxHeartbeats 2000000 in
theorem tail_yes {ao : Option Addr} {cap : Nat} {l : List PickD} (h : RdT encPk w 3 (.slice ao l.length cap) l) (hn : ∀ p ∈ l, -9223372036854775808 ≤ p.n ∧ p.n ≤ 9223372036854775807 ∧ 0 ≤ p.kind) (first : Int) (he : tailE l first = 0) :
    Calls Tryz.prog 7 #[.slice ao l.length cap, .int .i64 first] w fun e w' => ∃ va vb, e = .returned (.tuple #[va, vb, .int .i64 0]) ∧
      w'.ownsRow w.heap.size 66 3 va (tailSt first l).2.1.length ((tailSt first l).2.1.flatMap encPk) ∧ w'.ownsRow w.heap.size 66 3 vb (tailSt first l).2.2.length ((tailSt first l).2.2.flatMap encPk) ∧
      (∀ g, va.ownBlock = some g → vb.ownBlock ≠ some g) ∧ Below w.heap.size w w' := by
  have h1 : (lengthS l).2 = 0 := by
    unfold tailE at he
    split at he
    · assumption
    · rename_i hc; simpa using hc
  have h2 := lengthS_ok h1
  have h3 : ¬ (first < 0) ∧ ¬ (first > (lengthS l).1) := by
    unfold tailE at he
    rw [if_neg (by simpa using h1)] at he
    constructor
    · intro hc; rw [if_pos (.inl hc)] at he; cases he
    · intro hc; rw [if_pos (.inr hc)] at he; cases he
  have H := hidI h
  have HN := hidI hn
  have H2 := hidI h2
  have h4 := h3.2
  have h3 := h3.1
  have hm : l.length ≤ 9000000000000 := by have := h2.1; omega
  clear h hn he h2
  go_enter Tryz.func7, Tryz.ntmps7
  go_wp2_with fail
  refine (length_any H.out hm (fun p hp => ⟨(HN.out p hp).1, (HN.out p hp).2.2⟩)).mono ?_
  rintro e w1 ⟨rfl, hb⟩
  rw [h1]
  have HB := hidI hb
  clear hb h1
  generalize hN : (lengthS l).1 = n at h4 ⊢
  have hb1 : decide (first < 0) = false := by simpa using h3
  have hb2 : decide (n < first) = false := by simpa using h4
  have h30 : 0 ≤ first := by omega
  have hfn : first ≤ 1048576 := by have := H2.out.2.2.1; have := H2.out.2.2.2; rw [hN] at this; omega
  have HFN := hidI hfn
  have hX : ∃ W, W = (w1.alloc (.cells #[.slice none 0 0] 22)).alloc (.cells #[.slice none 0 0] 22) := ⟨_, rfl⟩
  have hT0 : TwoVar w ((w1.alloc (.cells #[.slice none 0 0] 22)).alloc (.cells #[.slice none 0 0] 22)) w1.heap.size (w1.heap.size + 1) [] [] (.slice none 0 0) (.slice none 0 0) :=
    ⟨⟨(heap_alloc_old _ _ (by simp)).trans (block_new _ _), World.ownsRow_nil _ _ _ _, by simp [Value.ownBlock]⟩, ⟨block_new2 _ _ _, World.ownsRow_nil _ _ _ _, by simp [Value.ownBlock]⟩, by simp [Value.ownBlock], by simp [Value.ownBlock], fun g h => by simp [Value.ownBlock] at h, by omega, HB.out.size, by have := HB.out.size; omega, (HB.out.alloc HB.out.size _).alloc (by have := HB.out.size; simp; omega) _⟩
  have HT0 := hidI hT0
  clear hN
  clear hT0 hX h3 h4 hfn
  go_wp2_with fail
  go_loopw [1, 32] (fun f i w' => ∃ k : Nat, k ≤ l.length ∧ i = .int .i64 (k : Int) ∧ f = .int .i64 (tailSt first (l.take k)).1 ∧ Hid (∃ va vb, TwoVar w w' w1.heap.size (w1.heap.size + 1) (tailSt first (l.take k)).2.1 (tailSt first (l.take k)).2.2 va vb)) (fun f i _ => ((l.length : Int) - intOf i).toNat)
  case atStart => exact ⟨0, by omega, rfl, rfl, ⟨_, _, HT0.out⟩⟩
  case round =>
    obtain ⟨k, hk, rfl, rfl, HT⟩ := hrel
    obtain ⟨va, vb, hT⟩ := HT.out
    clear HT
    by_cases hlt : k < l.length
    · obtain ⟨x, hx⟩ := some_at hlt
      obtain ⟨b1, o1, rfl, hs1, hc1⟩ := RdT.at encPk_len (Rd.below H.out hT.old) hx
      have x0 := hc1 0 _ rfl
      have x1 := hc1 1 _ rfl
      have x2 := hc1 2 _ rfl
      simp only [Nat.add_zero] at x0
      have hbx : pbad x = false := by
        have := List.any_eq_false.1 H2.out.2.1 x (List.mem_of_getElem? hx)
        simpa using this
      have hng : 0 ≤ x.n := by unfold pbad at hbx; simp at hbx; omega
      have hp0 := plen_ge hbx
      have hp1 := plen_le x
      have hf := tailSt_first h30 (l.take k) (List.any_eq_false.2 fun y hy => List.any_eq_false.1 H2.out.2.1 y (List.mem_of_mem_take hy))
      have hlen := tailSt_len first (l.take k)
      have hsn : tailSt first (l.take (k + 1)) = tailNext x (tailSt first (l.take k)) := by rw [take_snoc hx, tailSt_snoc]
      have HSN := hidI hsn
      have HX := hidI hx
      have HT := hidI hT
      clear hc1 hs1 hx hbx hsn hT
      go_wp2_with fail
      refine (plen_any _ x hng).mono ?_
      rintro e w2 ⟨rfl, hb2⟩
      have hfu : (tailSt first (l.take k)).1 ≤ 1048576 := by have := HFN.out; omega
      have hf0 := hf.1
      have hblk : w2.heap[wr.heap.size]? = some (.cells (encPk x).toArray 66 (0, 0)) := (hb2.block _ (by simp)).trans (block_new _ _)
      have p0 : w2.cell? ⟨wr.heap.size, 0, none⟩ = some (.int .u8 x.kind) := cell_of_block hblk rfl
      have p1 : w2.cell? ⟨wr.heap.size, 1, none⟩ = some (.int .i64 x.th) := cell_of_block hblk rfl
      have p2 : w2.cell? ⟨wr.heap.size, 2, none⟩ = some (.int .i64 x.n) := cell_of_block hblk rfl
      have hT2 := HT.out.below (((Below.refl wr.heap.size wr).alloc (Nat.le_refl _) _).trans (hb2.mono (by simp)))
      have hl1 : (tailSt first (l.take k)).2.1.length ≤ 900000 := by have h1 := hlen.1; have := H2.out.1; simp only [List.length_take] at h1; omega
      have hl2 : (tailSt first (l.take k)).2.2.length ≤ 900000 := by have h1 := hlen.2; have := H2.out.1; simp only [List.length_take] at h1; omega
      have hlt2 := lt_of_block HT.out.a.box
      have hlt3 := lt_of_block HT.out.b.box
      have hasd : Aside w2 wr.heap.size (.cells (encPk x).toArray 66 (0, 0)) w1.heap.size (w1.heap.size + 1) va vb :=
        ⟨hblk, fun e => by have := (rowLt HT.out.a.row e).2; omega, fun e => by have := (rowLt HT.out.b.row e).2; omega, by omega, by omega⟩
      have HT := hidI hT2
      have HA := hidI hasd
      clear hblk hT2 hb2 hf hlen hasd hlt2 hlt3
      generalize hpl : plen x = pl at *
      generalize hst : tailSt first (l.take k) = st at *
      obtain ⟨f, A, B⟩ := st
      simp only at hf0 hfu hl1 hl2 HT HSN HA ⊢
      have HPL := hidI hpl
      have HL1 := hidI hl1
      have HL2 := hidI hl2
      clear hpl hst hl1 hl2
      by_cases hmin : pl < f
      · have hm : min f pl = pl := by omega
        by_cases hk2 : x.kind = 2
        · have hsn : tailSt first (l.take (k + 1)) = (f - pl, putS (putS A 2 x.th (pl / 2)) 0 x.th (pl % 2), putS (putS B 1 x.th (pl % 2)) 2 x.th (x.n - (pl + 1) / 2)) := by
            rw [HSN.out]
            simp only [tailNext, HPL.out, hm, tailStep, if_pos hk2]
          have HSN := hidI hsn
          clear hsn hm
          rw [hk2] at p0
          go_wp2_with fail
          refine (put_a HT.out HA.out (by have := HL1.out; omega) _ _ _).mono ?_
          rintro e w3 ⟨rfl, va3, hT, hA⟩
          have HT := hidI hT
          have HA := hidI hA
          clear hT hA p0 p1 p2
          have p0 : w3.cell? ⟨wr.heap.size, 0, none⟩ = some (.int .u8 2) := by first | exact cell_of_block HA.out.blk rfl | (rw [← hk2]; exact cell_of_block HA.out.blk rfl)
          have p1 : w3.cell? ⟨wr.heap.size, 1, none⟩ = some (.int .i64 x.th) := cell_of_block HA.out.blk rfl
          have p2 : w3.cell? ⟨wr.heap.size, 2, none⟩ = some (.int .i64 x.n) := cell_of_block HA.out.blk rfl
          go_wp2_with fail
          refine (put_a HT.out HA.out (by have := HL1.out; have := putS_len A 2 x.th (pl / 2); omega) _ _ _).mono ?_
          rintro e w4 ⟨rfl, va4, hT, hA⟩
          have HT := hidI hT
          have HA := hidI hA
          clear hT hA p0 p1 p2
          have p0 : w4.cell? ⟨wr.heap.size, 0, none⟩ = some (.int .u8 2) := by first | exact cell_of_block HA.out.blk rfl | (rw [← hk2]; exact cell_of_block HA.out.blk rfl)
          have p1 : w4.cell? ⟨wr.heap.size, 1, none⟩ = some (.int .i64 x.th) := cell_of_block HA.out.blk rfl
          have p2 : w4.cell? ⟨wr.heap.size, 2, none⟩ = some (.int .i64 x.n) := cell_of_block HA.out.blk rfl
          go_wp2_with fail
          refine (put_b HT.out HA.out (by have := HL2.out; omega) _ _ _).mono ?_
          rintro e w5 ⟨rfl, vb5, hT, hA⟩
          have HT := hidI hT
          have HA := hidI hA
          clear hT hA p0 p1 p2
          have p0 : w5.cell? ⟨wr.heap.size, 0, none⟩ = some (.int .u8 2) := by first | exact cell_of_block HA.out.blk rfl | (rw [← hk2]; exact cell_of_block HA.out.blk rfl)
          have p1 : w5.cell? ⟨wr.heap.size, 1, none⟩ = some (.int .i64 x.th) := cell_of_block HA.out.blk rfl
          have p2 : w5.cell? ⟨wr.heap.size, 2, none⟩ = some (.int .i64 x.n) := cell_of_block HA.out.blk rfl
          go_wp2_with fail
          refine (put_b HT.out HA.out (by have := HL2.out; have := putS_len B 1 x.th (pl % 2); omega) _ _ _).mono ?_
          rintro e w6 ⟨rfl, vb6, hT, hA⟩
          have HT := hidI hT
          have HA := hidI hA
          clear hT hA p0 p1 p2
          go_wp2_with fail
          have hw : wrap64 (x.n - (pl + 1) / 2) = x.n - (pl + 1) / 2 := by have := (HN.out x (List.mem_of_getElem? HX.out)).2.1; unfold wrap64; omega
          have hT := HT.out
          rw [hw] at hT
          exact ⟨⟨k + 1, by omega, by go_num, by rw [HSN.out], ⟨_, _, by rw [HSN.out]; exact hT⟩⟩, by simp [intOf]; omega⟩
        · have hsn : tailSt first (l.take (k + 1)) = (f - pl, putS A x.kind x.th pl, putS B x.kind x.th (x.n - pl)) := by
            rw [HSN.out]
            simp only [tailNext, HPL.out, hm, tailStep, if_neg hk2]
          have HSN := hidI hsn
          clear hsn hm
          go_wp2_with fail
          refine (put_a HT.out HA.out (by have := HL1.out; omega) _ _ _).mono ?_
          rintro e w3 ⟨rfl, va3, hT, hA⟩
          have HT := hidI hT
          have HA := hidI hA
          clear hT hA p0 p1 p2
          have p0 : w3.cell? ⟨wr.heap.size, 0, none⟩ = some (.int .u8 x.kind) := by first | exact cell_of_block HA.out.blk rfl | (rw [← hk2]; exact cell_of_block HA.out.blk rfl)
          have p1 : w3.cell? ⟨wr.heap.size, 1, none⟩ = some (.int .i64 x.th) := cell_of_block HA.out.blk rfl
          have p2 : w3.cell? ⟨wr.heap.size, 2, none⟩ = some (.int .i64 x.n) := cell_of_block HA.out.blk rfl
          go_wp2_with fail
          refine (put_b HT.out HA.out (by have := HL2.out; omega) _ _ _).mono ?_
          rintro e w4 ⟨rfl, vb4, hT, hA⟩
          have HT := hidI hT
          have HA := hidI hA
          clear hT hA p0 p1 p2
          go_wp2_with fail
          have hw : wrap64 (x.n - pl) = x.n - pl := by have := (HN.out x (List.mem_of_getElem? HX.out)).2.1; unfold wrap64; omega
          have hT := HT.out
          rw [hw] at hT
          exact ⟨⟨k + 1, by omega, by go_num, by rw [HSN.out], ⟨_, _, by rw [HSN.out]; exact hT⟩⟩, by simp [intOf]; omega⟩
      · have hm : min f pl = f := by omega
        by_cases hk2 : x.kind = 2
        · have hsn : tailSt first (l.take (k + 1)) = (0, putS (putS A 2 x.th (f / 2)) 0 x.th (f % 2), putS (putS B 1 x.th (f % 2)) 2 x.th (x.n - (f + 1) / 2)) := by
            rw [HSN.out]
            simp only [tailNext, HPL.out, hm, tailStep, if_pos hk2, Int.sub_self]
          have HSN := hidI hsn
          clear hsn hm
          rw [hk2] at p0
          go_wp2_with fail
          refine (put_a HT.out HA.out (by have := HL1.out; omega) _ _ _).mono ?_
          rintro e w3 ⟨rfl, va3, hT, hA⟩
          have HT := hidI hT
          have HA := hidI hA
          clear hT hA p0 p1 p2
          have p0 : w3.cell? ⟨wr.heap.size, 0, none⟩ = some (.int .u8 2) := by first | exact cell_of_block HA.out.blk rfl | (rw [← hk2]; exact cell_of_block HA.out.blk rfl)
          have p1 : w3.cell? ⟨wr.heap.size, 1, none⟩ = some (.int .i64 x.th) := cell_of_block HA.out.blk rfl
          have p2 : w3.cell? ⟨wr.heap.size, 2, none⟩ = some (.int .i64 x.n) := cell_of_block HA.out.blk rfl
          go_wp2_with fail
          refine (put_a HT.out HA.out (by have := HL1.out; have := putS_len A 2 x.th (f / 2); omega) _ _ _).mono ?_
          rintro e w4 ⟨rfl, va4, hT, hA⟩
          have HT := hidI hT
          have HA := hidI hA
          clear hT hA p0 p1 p2
          have p0 : w4.cell? ⟨wr.heap.size, 0, none⟩ = some (.int .u8 2) := by first | exact cell_of_block HA.out.blk rfl | (rw [← hk2]; exact cell_of_block HA.out.blk rfl)
          have p1 : w4.cell? ⟨wr.heap.size, 1, none⟩ = some (.int .i64 x.th) := cell_of_block HA.out.blk rfl
          have p2 : w4.cell? ⟨wr.heap.size, 2, none⟩ = some (.int .i64 x.n) := cell_of_block HA.out.blk rfl
          go_wp2_with fail
          refine (put_b HT.out HA.out (by have := HL2.out; omega) _ _ _).mono ?_
          rintro e w5 ⟨rfl, vb5, hT, hA⟩
          have HT := hidI hT
          have HA := hidI hA
          clear hT hA p0 p1 p2
          have p0 : w5.cell? ⟨wr.heap.size, 0, none⟩ = some (.int .u8 2) := by first | exact cell_of_block HA.out.blk rfl | (rw [← hk2]; exact cell_of_block HA.out.blk rfl)
          have p1 : w5.cell? ⟨wr.heap.size, 1, none⟩ = some (.int .i64 x.th) := cell_of_block HA.out.blk rfl
          have p2 : w5.cell? ⟨wr.heap.size, 2, none⟩ = some (.int .i64 x.n) := cell_of_block HA.out.blk rfl
          go_wp2_with fail
          refine (put_b HT.out HA.out (by have := HL2.out; have := putS_len B 1 x.th (f % 2); omega) _ _ _).mono ?_
          rintro e w6 ⟨rfl, vb6, hT, hA⟩
          have HT := hidI hT
          have HA := hidI hA
          clear hT hA p0 p1 p2
          go_wp2_with fail
          have hw : wrap64 (x.n - (f + 1) / 2) = x.n - (f + 1) / 2 := by have := (HN.out x (List.mem_of_getElem? HX.out)).2.1; unfold wrap64; omega
          have hT := HT.out
          rw [hw] at hT
          exact ⟨⟨k + 1, by omega, by go_num, by rw [HSN.out], ⟨_, _, by rw [HSN.out]; exact hT⟩⟩, by simp [intOf]; omega⟩
        · have hsn : tailSt first (l.take (k + 1)) = (0, putS A x.kind x.th f, putS B x.kind x.th (x.n - f)) := by
            rw [HSN.out]
            simp only [tailNext, HPL.out, hm, tailStep, if_neg hk2, Int.sub_self]
          have HSN := hidI hsn
          clear hsn hm
          go_wp2_with fail
          refine (put_a HT.out HA.out (by have := HL1.out; omega) _ _ _).mono ?_
          rintro e w3 ⟨rfl, va3, hT, hA⟩
          have HT := hidI hT
          have HA := hidI hA
          clear hT hA p0 p1 p2
          have p0 : w3.cell? ⟨wr.heap.size, 0, none⟩ = some (.int .u8 x.kind) := by first | exact cell_of_block HA.out.blk rfl | (rw [← hk2]; exact cell_of_block HA.out.blk rfl)
          have p1 : w3.cell? ⟨wr.heap.size, 1, none⟩ = some (.int .i64 x.th) := cell_of_block HA.out.blk rfl
          have p2 : w3.cell? ⟨wr.heap.size, 2, none⟩ = some (.int .i64 x.n) := cell_of_block HA.out.blk rfl
          go_wp2_with fail
          refine (put_b HT.out HA.out (by have := HL2.out; omega) _ _ _).mono ?_
          rintro e w4 ⟨rfl, vb4, hT, hA⟩
          have HT := hidI hT
          have HA := hidI hA
          clear hT hA p0 p1 p2
          go_wp2_with fail
          have hw : wrap64 (x.n - f) = x.n - f := by have := (HN.out x (List.mem_of_getElem? HX.out)).2.1; unfold wrap64; omega
          have hT := HT.out
          rw [hw] at hT
          exact ⟨⟨k + 1, by omega, by go_num, by rw [HSN.out], ⟨_, _, by rw [HSN.out]; exact hT⟩⟩, by simp [intOf]; omega⟩
    · obtain rfl : k = l.length := by omega
      have q0 : wr.cell? ⟨w1.heap.size, 0, none⟩ = some va := cell_of_block hT.a.box rfl
      have q1 : wr.cell? ⟨w1.heap.size + 1, 0, none⟩ = some vb := cell_of_block hT.b.box rfl
      have HT := hidI hT
      clear hT
      go_wp2_with fail
      go_quiet (fail)
      go_wp2_with fail
      go_ret3
      have hT := HT.out
      rw [List.take_length] at hT
      have hT2 := fun n => hT.below (below_drewN (Below.refl wr.heap.size wr) n)
      exact ⟨va, vb, rfl, (hT2 _).a.row, (hT2 _).b.row, hT.rows, (hT2 _).old⟩
end Go.Proofs.YtmjppdlhglkelaaGreatDoor

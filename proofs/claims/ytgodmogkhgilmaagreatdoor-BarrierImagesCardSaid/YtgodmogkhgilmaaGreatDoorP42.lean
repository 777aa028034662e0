/- Part of the proof: BkI -/
import Derived.Test.YtgodmogkhgilmaaGreatDoorP41
namespace Go.Proofs.YtgodmogkhgilmaaGreatDoor
open Go.RowKit
set_option linter.unusedVariables false
set_option linter.unusedSimpArgs false
set_option maxHeartbeats 2000000
variable {w0 w w' : World} {kb cnt : Nat} {ws : List (Nat × Obj)}
theorem BkImg.tight {w : World} {base kb cnt : Nat} {O : Nat → Prop} (h : BkImg w base kb cnt O) : BkImg w base kb cnt (fun g => O g ∧ g < w.heap.size) := by
  obtain ⟨C, hCell, hOp, hOpRow, eCell, eOp, eOpRow, h⟩ := h
  exact ⟨C, hCell, hOp, hOpRow, eCell, eOp, eOpRow, h.blk, h.csz, h.c0, h.cCell, h.cOp, h.cOpRow, h.cno, h.kCell, h.nCell, h.lCell, fun g hg => ⟨h.oCell g hg, (h.kCell.from hg).2⟩, h.kOp, h.nOp, h.lOp, fun g hg => ⟨h.oOp g hg, (h.kOp.from hg).2⟩, h.kOpRow, h.nOpRow, h.lOpRow, fun g hg => ⟨h.oOpRow g hg, (h.kOpRow.from hg).2⟩, h.sCellOp, h.sCellOpRow, h.sOpOpRow, h.cm⟩
structure RowK where
  k : Nat
  v : Value
  n : Nat
  cs : List Value
def rowT : Nat → TypeId
  | 0 => 101
  | 1 => 79
  | _ => 103
def rowZ : Nat → Nat
  | 0 => 6
  | 1 => 1
  | _ => 2
def ApartK (r s : RowK) : Prop := ∀ g, r.v.ownBlock = some g → s.v.ownBlock ≠ some g
def LowK (w0 w : World) (rows : List RowK) (ws : List (Nat × Obj)) (O : Nat → Prop) : Prop := ∀ k, O k → (w0.heap.size ≤ k ∧ k < w.heap.size) ∧ (∀ r ∈ rows, r.v.ownBlock ≠ some k) ∧ ∀ p ∈ ws, p.1 ≠ k
structure BkT (w0 w : World) (kb cnt : Nat) (rows : List RowK) (ws : List (Nat × Obj)) : Prop where
  bk : ∃ O, BkImg w w0.heap.size kb cnt O ∧ LowK w0 w rows ws O
  wat : ∀ p ∈ ws, w.heap[p.1]? = some p.2 ∧ p.1 ≠ kb ∧ ∀ r ∈ rows, r.v.ownBlock ≠ some p.1
  own : ∀ r ∈ rows, w.ownsRow w0.heap.size (rowT r.k) (rowZ r.k) r.v r.n r.cs
  kbf : ∀ r ∈ rows, r.v.ownBlock ≠ some kb
  pw : rows.Pairwise ApartK
  kl : w0.heap.size ≤ kb ∧ kb < w.heap.size
  old : Below w0.heap.size w0 w
theorem BkT.start {rows : List RowK} (hb : Below w0.heap.size w0 w) (hown : ∀ r ∈ rows, w.ownsRow w0.heap.size (rowT r.k) (rowZ r.k) r.v r.n r.cs) (hpw : rows.Pairwise ApartK) (hws : ∀ p ∈ ws, w.heap[p.1]? = some p.2 ∧ ∀ r ∈ rows, r.v.ownBlock ≠ some p.1) :
    BkT w0 (w.alloc (.cells zeroBook 67)) w.heap.size 0 rows ws :=
  ⟨⟨fun _ => False, BkImg.nil (block_new w _), fun k h => h.elim⟩, fun p hp => ⟨block_alloc (hws p hp).1, by have := lt_of_block (hws p hp).1; omega, (hws p hp).2⟩, fun r hr => ownRow_keep (hown r hr) fun k _ hl => ((Below.refl w.heap.size w).alloc (Nat.le_refl _) _).block k hl,
    fun r hr e => by have := (rowLt (hown r hr) e).2; omega, hpw, ⟨hb.size, by simp⟩, hb.alloc hb.size _⟩
theorem BkT.below {rows : List RowK} (h : BkT w0 w kb cnt rows ws) (hb : Below w.heap.size w w') : BkT w0 w' kb cnt rows ws := by
  obtain ⟨O, h1, h2⟩ := h.bk
  have hs := hb.size
  exact ⟨⟨O, h1.below hb, fun k hk => ⟨⟨(h2 k hk).1.1, by have := (h2 k hk).1.2; omega⟩, (h2 k hk).2⟩⟩, fun p hp => ⟨blk hb (h.wat p hp).1, (h.wat p hp).2⟩, fun r hr => ownRow_keep (h.own r hr) fun k _ hl => hb.block k hl, h.kbf, h.pw, ⟨h.kl.1, by have := h.kl.2; omega⟩, h.old.trans (hb.mono h.old.size)⟩
theorem BkT.watch {rows : List RowK} (h : BkT w0 w kb cnt rows ws) (o : Obj) : BkT w0 (w.alloc o) kb cnt rows ((w.heap.size, o) :: ws) := by
  have h1 := h.below ((Below.refl w.heap.size w).alloc (Nat.le_refl _) o)
  obtain ⟨O, h2, h3⟩ := h.bk
  refine ⟨⟨O, h2.below ((Below.refl w.heap.size w).alloc (Nat.le_refl _) o), fun k hk => ⟨⟨(h3 k hk).1.1, by have := (h3 k hk).1.2; simp; omega⟩, (h3 k hk).2.1, fun p hp e => ?_⟩⟩, fun p hp => ?_, h1.own, h1.kbf, h1.pw, h1.kl, h1.old⟩
  · rcases List.mem_cons.1 hp with rfl | hp
    · have := (h3 k hk).1.2
      simp only at e
      omega
    · exact (h3 k hk).2.2 p hp e
  · rcases List.mem_cons.1 hp with rfl | hp
    · exact ⟨block_new w o, by have := h.kl.2; simp only; omega, fun r hr e => by have := (rowLt (h.own r hr) e).2; omega⟩
    · exact h1.wat p hp
theorem BkT.unwatch {rows : List RowK} {ws' : List (Nat × Obj)} (h : BkT w0 w kb cnt rows ws) (hs : ∀ p ∈ ws', p ∈ ws) : BkT w0 w kb cnt rows ws' := by
  obtain ⟨O, h2, h3⟩ := h.bk
  exact ⟨⟨O, h2, fun k hk => ⟨(h3 k hk).1, (h3 k hk).2.1, fun p hp => (h3 k hk).2.2 p (hs p hp)⟩⟩, fun p hp => h.wat p (hs p hp), h.own, h.kbf, h.pw, h.kl, h.old⟩
theorem BkT.add {rows : List RowK} {r : RowK} (h : BkT w0 w kb cnt rows ws) (hb : Below w.heap.size w w') (hown : w'.ownsRow w.heap.size (rowT r.k) (rowZ r.k) r.v r.n r.cs) : BkT w0 w' kb cnt (r :: rows) ws := by
  have h1 := h.below hb
  obtain ⟨O, h2, h3⟩ := h.bk
  have hs := hb.size
  refine ⟨⟨O, h2.below hb, fun k hk => ⟨⟨(h3 k hk).1.1, by have := (h3 k hk).1.2; omega⟩, fun s hs' => ?_, (h3 k hk).2.2⟩⟩, fun p hp => ⟨(h1.wat p hp).1, (h1.wat p hp).2.1, fun s hs' => ?_⟩, fun s hs' => ?_, fun s hs' => ?_, List.pairwise_cons.2 ⟨fun s hs' g hg e => ?_, h.pw⟩, h1.kl, h1.old⟩
  · rcases List.mem_cons.1 hs' with rfl | hs'
    · exact fun e => by have := (rowLt hown e).1; have := (h3 k hk).1.2; omega
    · exact (h3 k hk).2.1 s hs'
  · rcases List.mem_cons.1 hs' with rfl | hs'
    · exact fun e => by have := (rowLt hown e).1; have := lt_of_block (h.wat p hp).1; omega
    · exact (h.wat p hp).2.2 s hs'
  · rcases List.mem_cons.1 hs' with rfl | hs'
    · exact ownsRow_mono hown h.old.size
    · exact h1.own s hs'
  · rcases List.mem_cons.1 hs' with rfl | hs'
    · exact fun e => by have := (rowLt hown e).1; have := h.kl.2; omega
    · exact h.kbf s hs'
  · have := (rowLt hown hg).1
    have := (rowLt (h.own s hs') e).2
    omega
theorem BkT.free {r : RowK} {rows : List RowK} {O : Nat → Prop} (h : BkT w0 w kb cnt (r :: rows) ws) (hlow : LowK w0 w (r :: rows) ws O) : ∀ s ∈ r :: rows, ∀ g, s.v.ownBlock = some g → ¬ O g ∧ g ≠ kb := fun s hs g hg =>
  ⟨fun e => (hlow g e).2.1 s hs hg, fun e => h.kbf s hs (by rw [← e]; exact hg)⟩
theorem BkT.took {r : RowK} {rows : List RowK} {O : Nat → Prop} (h : BkT w0 w kb cnt (r :: rows) ws) (hlow : LowK w0 w (r :: rows) ws O)
    (hb : BkImg w' w0.heap.size kb (cnt + 1) (fun g => O g ∨ w.heap.size ≤ g ∨ r.v.ownBlock = some g)) (hchg : Chg (fun k => k = kb ∨ O k) w w') : BkT w0 w' kb (cnt + 1) rows ws := by
  have hpw := List.pairwise_cons.1 h.pw
  have hs := hchg.size
  refine ⟨⟨_, hb.tight, fun k hk => ⟨⟨?_, hk.2⟩, fun s hs' e => ?_, fun p hp e => ?_⟩⟩, fun p hp => ⟨chgblk hchg (h.wat p hp).1 (fun e => ?_), (h.wat p hp).2.1, fun s hs' => (h.wat p hp).2.2 s (List.mem_cons_of_mem _ hs')⟩, fun s hs' => ?_, fun s hs' => h.kbf s (List.mem_cons_of_mem _ hs'), hpw.2, ⟨h.kl.1, by have := h.kl.2; omega⟩, ?_⟩
  · rcases hk.1 with e | e | e
    · exact (hlow k e).1.1
    · have := h.old.size; omega
    · exact (rowLt (h.own r (by simp)) e).1
  · rcases hk.1 with q | q | q
    · exact (hlow k q).2.1 s (List.mem_cons_of_mem _ hs') e
    · have := (rowLt (h.own s (List.mem_cons_of_mem _ hs')) e).2; omega
    · exact hpw.1 s hs' k q e
  · rcases hk.1 with q | q | q
    · exact (hlow k q).2.2 p hp e
    · have := lt_of_block (h.wat p hp).1; omega
    · exact (h.wat p hp).2.2 r (by simp) (by rw [e]; exact q)
  · rcases e with e | e
    · exact (h.wat p hp).2.1 e
    · exact (hlow _ e).2.2 p hp rfl
  · exact ownsRow_chg (h.own s (List.mem_cons_of_mem _ hs')) hchg (fun k hk e => by
      rcases e with e | e
      · exact h.kbf s (List.mem_cons_of_mem _ hs') (by rw [← e]; exact hk)
      · exact (hlow k e).2.1 s (List.mem_cons_of_mem _ hs') hk)
  · exact Chg.below h.old h.old.size hchg (fun k hk => by
      rcases hk with rfl | e
      · exact h.kl.1
      · exact (hlow k e).1.1)
theorem BkT.keepOp {r : RowK} {rows : List RowK} (hr : r.k = 0) (h : BkT w0 w kb cnt (r :: rows) ws) (hc : cnt < 4000000) (hn : r.n ≤ 4000000) :
    Calls Tryz.prog 29 #[.pointer (some ⟨kb, 0, none⟩), r.v] w fun e w' => e = .returned (.tuple #[]) ∧ BkT w0 w' kb (cnt + 1) rows ws := by
  obtain ⟨O, hbk, hlow⟩ := h.bk
  have hown : w.ownsRow w0.heap.size 101 6 r.v r.n r.cs := by
    have := h.own r (by simp)
    rw [hr] at this
    exact this
  obtain ⟨lo, lc, hv⟩ := ownsRow_shape hown
  rw [hv] at hown ⊢
  have hf := h.free hlow
  refine (bkImg_keepOp hbk hc hn hown (fun g hg => by rw [← hv] at hg; exact hf r (by simp) g hg) h.old.size).mono ?_
  rintro e w' ⟨rfl, hb, hchg⟩
  rw [← hv] at hb
  exact ⟨rfl, h.took hlow hb hchg⟩
theorem BkT.keepOpRow {r : RowK} {rows : List RowK} (hr : r.k = 1) (h : BkT w0 w kb cnt (r :: rows) ws) (hc : cnt < 4000000) (hn : r.n ≤ 4000000) :
    Calls Tryz.prog 30 #[.pointer (some ⟨kb, 0, none⟩), r.v] w fun e w' => e = .returned (.tuple #[]) ∧ BkT w0 w' kb (cnt + 1) rows ws := by
  obtain ⟨O, hbk, hlow⟩ := h.bk
  have hown : w.ownsRow w0.heap.size 79 1 r.v r.n r.cs := by
    have := h.own r (by simp)
    rw [hr] at this
    exact this
  obtain ⟨lo, lc, hv⟩ := ownsRow_shape hown
  rw [hv] at hown ⊢
  have hf := h.free hlow
  refine (bkImg_keepOpRow hbk hc hn hown (fun g hg => by rw [← hv] at hg; exact hf r (by simp) g hg) h.old.size).mono ?_
  rintro e w' ⟨rfl, hb, hchg⟩
  rw [← hv] at hb
  exact ⟨rfl, h.took hlow hb hchg⟩
theorem BkT.keepCell {r : RowK} {rows : List RowK} (hr : r.k = 2) (h : BkT w0 w kb cnt (r :: rows) ws) (hc : cnt < 4000000) (hn : r.n ≤ 4000000) :
    Calls Tryz.prog 31 #[.pointer (some ⟨kb, 0, none⟩), r.v] w fun e w' => e = .returned (.tuple #[]) ∧ BkT w0 w' kb (cnt + 1) rows ws := by
  obtain ⟨O, hbk, hlow⟩ := h.bk
  have hown : w.ownsRow w0.heap.size 103 2 r.v r.n r.cs := by
    have := h.own r (by simp)
    rw [hr] at this
    exact this
  obtain ⟨lo, lc, hv⟩ := ownsRow_shape hown
  rw [hv] at hown ⊢
  have hf := h.free hlow
  refine (bkImg_keepCell hbk hc hn hown (fun g hg => by rw [← hv] at hg; exact hf r (by simp) g hg) h.old.size).mono ?_
  rintro e w' ⟨rfl, hb, hchg⟩
  rw [← hv] at hb
  exact ⟨rfl, h.took hlow hb hchg⟩
theorem BkT.done {rows : List RowK} (h : BkT w0 w kb cnt rows ws) :
    Calls Tryz.prog 15 #[.pointer (some ⟨kb, 0, none⟩)] w fun e w' => e = .returned (.bool true) ∧ Below w0.heap.size w0 w' := by
  obtain ⟨O, hbk, hlow⟩ := h.bk
  refine (bkImg_apart hbk).mono ?_
  rintro e w' ⟨rfl, hc⟩
  exact ⟨rfl, Chg.below h.old h.old.size hc (fun k hk => (hlow k hk).1.1)⟩
def opK (p : Nat × List OpD) : RowK := ⟨0, codeV1 p, p.2.length, p.2.flatMap encOp⟩
def tabK (v : Value) (cs : List (Nat × List OpD)) : RowK := ⟨1, v, cs.length, cs.map codeV1⟩
def celK : RowK := ⟨2, .slice none 0 0, 0, []⟩
theorem codeV1_len : ∀ p : Nat × List OpD, ([codeV1 p]).length = 1 := fun _ => rfl
theorem codeV1_flat (cs : List (Nat × List OpD)) : cs.map codeV1 = cs.flatMap (fun p => [codeV1 p]) := by
  induction cs with
  | nil => rfl
  | cons p r ih => rw [List.map_cons, List.flatMap_cons, ih]; rfl
theorem BkT.image {co : Option Addr} {cc : Nat} {mem : Int} {cs : List (Nat × List OpD)} {rows : List RowK} (h : BkT w0 w kb cnt (cs.map opK ++ tabK (.slice co cs.length cc) cs :: celK :: rows) ws) (hc : cnt + 7 < 4000000) (hl : cs.length ≤ 4) (hn : ∀ p ∈ cs, p.2.length ≤ 4000000) :
    Calls Tryz.prog 14 #[.pointer (some ⟨kb, 0, none⟩), .agg #[.slice co cs.length cc, .int .i64 mem, .slice none 0 0]] w fun e w' => e = .returned (.tuple #[]) ∧ BkT w0 w' kb (cnt + cs.length + 2) rows ws := by
  have HK := hidI ((h.watch (.cells #[.slice co cs.length cc, .int .i64 mem, .slice none 0 0] 30)))
  have HC := hidI hc
  have HN := hidI hn
  clear h hc hn
  go_enter Tryz.func14, Tryz.ntmps14
  go_wp2_with fail
  go_loopw [8] (fun i w' => ∃ k : Nat, k ≤ cs.length ∧ i = .int .i64 (k : Int) ∧ Hid (BkT w0 w' kb (cnt + k) ((cs.drop k).map opK ++ tabK (.slice co cs.length cc) cs :: celK :: rows) ((w.heap.size, .cells #[.slice co cs.length cc, .int .i64 mem, .slice none 0 0] 30) :: ws))) (fun i _ => ((cs.length : Int) - intOf i).toNat)
  case atStart => exact ⟨0, by omega, rfl, hidI (by simpa using HK.out)⟩
  case round =>
    obtain ⟨k, hk, rfl, HB⟩ := hrel
    have hbx := (HB.out.wat _ (List.mem_cons_self ..)).1
    have z0 : wr.cell? ⟨w.heap.size, 0, none⟩ = some (.slice co cs.length cc) := cell_of_block hbx rfl
    have z2 : wr.cell? ⟨w.heap.size, 2, none⟩ = some (.slice none 0 0) := cell_of_block hbx rfl
    by_cases hlt : k < cs.length
    · obtain ⟨p, hp⟩ := some_at hlt
      have hrd : RdT (fun p => [codeV1 p]) wr 1 (.slice co cs.length cc) cs := Rd.of_own (by rw [← codeV1_flat]; exact HB.out.own (tabK (.slice co cs.length cc) cs) (by simp))
      obtain ⟨b1, o1, rfl, hs1, hc1⟩ := RdT.at codeV1_len hrd hp
      have x0 := hc1 0 _ rfl
      simp only [Nat.add_zero, Nat.mul_one] at x0
      have hdrop : cs.drop k = p :: cs.drop (k + 1) := by
        obtain ⟨hl', he⟩ := List.getElem?_eq_some_iff.1 hp
        rw [← he]; exact List.drop_eq_getElem_cons hl'
      have hB := HB.out
      rw [hdrop, List.map_cons, List.cons_append] at hB
      have HT := hidI (BkT.keepOp (r := opK p) rfl hB (by have := HC.out; omega) (HN.out p (List.mem_of_getElem? hp)))
      have hT : Hid (Calls Tryz.prog 29 #[.pointer (some ⟨kb, 0, none⟩), .slice (some ⟨p.1, 0, none⟩) p.2.length p.2.length] wr fun e w' => e = .returned (.tuple #[]) ∧ BkT w0 w' kb (cnt + k + 1) ((cs.drop (k + 1)).map opK ++ tabK (.slice (some ⟨b1, o1, none⟩) cs.length cc) cs :: celK :: rows) ((w.heap.size, .cells #[.slice (some ⟨b1, o1, none⟩) cs.length cc, .int .i64 mem, .slice none 0 0] 30) :: ws)) := HT
      unfold codeV1 at x0
      clear hrd hs1 hc1 hdrop hB HT HB hbx
      go_wp2_with fail
      refine hT.out.mono ?_
      rintro e w3 ⟨rfl, hb3⟩
      have HB3 := hidI hb3
      clear hb3
      go_wp2_with fail
      exact ⟨⟨k + 1, by omega, by go_num, HB3⟩, by simp [intOf]; omega⟩
    · obtain rfl : k = cs.length := by omega
      have hB := HB.out
      rw [List.drop_length, List.map_nil, List.nil_append] at hB
      have HT := hidI (BkT.keepOpRow (r := tabK (.slice co cs.length cc) cs) rfl hB (by have := HC.out; omega) (show cs.length ≤ 4000000 by omega))
      clear hB hbx
      go_wp2_with fail
      refine HT.out.mono ?_
      rintro e w3 ⟨rfl, hb3⟩
      have hbx := (hb3.wat _ (List.mem_cons_self ..)).1
      have z2 : w3.cell? ⟨w.heap.size, 2, none⟩ = some (.slice none 0 0) := cell_of_block hbx rfl
      have HT3 := hidI (BkT.keepCell (r := celK) rfl hb3 (by have := HC.out; omega) (show 0 ≤ 4000000 by omega))
      clear hb3 hbx
      go_wp2_with fail
      refine HT3.out.mono ?_
      rintro e w4 ⟨rfl, hb4⟩
      have HB4 := hidI (hb4.unwatch (ws' := ws) (fun p hp => List.mem_cons_of_mem _ hp))
      clear hb4
      go_wp2_with fail
      go_end0
      exact ⟨rfl, HB4.out⟩
theorem img_rows {base : Nat} {co : Option Addr} {cc : Nat} {cs : List (Nat × List OpD)} (hown : w.ownsRow base 79 1 (.slice co cs.length cc) cs.length (cs.map codeV1)) (hin : CodesIn w base cs) (hn : ∀ p ∈ cs, p.2.length ≤ 4000000) :
    (∀ r ∈ cs.map opK ++ [tabK (.slice co cs.length cc) cs, celK], w.ownsRow base (rowT r.k) (rowZ r.k) r.v r.n r.cs) ∧ (cs.map opK ++ [tabK (.slice co cs.length cc) cs, celK]).Pairwise ApartK := by
  have hne : ∀ p ∈ cs, (Value.slice co cs.length cc).ownBlock ≠ some p.1 := fun p hp e => by
    rcases hown.2 with ⟨hv, hl⟩ | ⟨g, cap, cur, hv, hb, hg, hc, hm, hs, ht⟩
    · have := List.length_pos_of_mem hp; omega
    · rw [hv] at e
      simp only [Value.ownBlock, Option.some.injEq] at e
      rw [e, (hin.blk p hp).1] at hg
      simp only [Option.some.injEq, Obj.cells.injEq] at hg
      exact absurd hg.2.1 (by decide)
  refine ⟨fun r hr => ?_, List.pairwise_append.2 ⟨?_, ?_, fun r hr s hs g hg e => ?_⟩⟩
  · rcases List.mem_append.1 hr with hr | hr
    · obtain ⟨p, hp, rfl⟩ := List.mem_map.1 hr
      exact own_of_full (hin.blk p hp).1 (hin.blk p hp).2 (by have := hn p hp; unfold maxLen; omega) (flat_len encOp_len _)
    · simp only [List.mem_cons, List.not_mem_nil, or_false] at hr
      rcases hr with rfl | rfl
      · exact hown
      · exact ⟨rfl, .inl ⟨rfl, rfl⟩⟩
  · refine List.pairwise_map.2 ((List.pairwise_map.1 hin.inj).imp fun h g hg e => ?_)
    simp only [opK, codeV1, Value.ownBlock, Option.some.injEq] at hg e
    exact h (hg.trans e.symm)
  · refine List.pairwise_cons.2 ⟨fun r hr g hg e => ?_, List.pairwise_singleton _ _⟩
    rw [List.mem_singleton.1 hr] at e
    simp [celK, Value.ownBlock] at e
  · obtain ⟨p, hp, rfl⟩ := List.mem_map.1 hr
    simp only [List.mem_cons, List.not_mem_nil, or_false] at hs
    rcases hs with rfl | rfl
    · simp only [opK, codeV1, Value.ownBlock, Option.some.injEq] at hg
      rw [← hg] at e
      exact hne p hp e
    · simp [celK, Value.ownBlock] at e
end Go.Proofs.YtgodmogkhgilmaaGreatDoor

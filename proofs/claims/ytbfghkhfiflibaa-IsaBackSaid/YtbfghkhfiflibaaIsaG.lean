/- The contract of the document's bytes. Written by mkisag.py. -/
import Derived.Test.YtbfghkhfiflibaaIsaD2
import Derived.Test.YtbfghkhfiflibaaIsaC
namespace Go.Proofs.Ytbfghkhfiflibaa
open Go.RowKit

/-- the bytes so far, in a row of their own beside three boxes -/
def St3 (w0 : World) (X Y Z : Obj) (p q r n : Nat) (bs : List UInt8) (v : Value) (w : World) : Prop :=
  w.ownsRow w0.heap.size 5 1 v n (enc8 bs) ∧ (∀ g, v.ownBlock = some g → g ≠ p ∧ g ≠ q ∧ g ≠ r) ∧ w.heap[p]? = some X ∧ w.heap[q]? = some Y ∧ w.heap[r]? = some Z ∧ Below w0.heap.size w0 w

theorem St3.lt {w0 w : World} {X Y Z : Obj} {p q r n : Nat} {bs : List UInt8} {v : Value} (h : St3 w0 X Y Z p q r n bs v w) : w0.heap.size ≤ w.heap.size := h.2.2.2.2.2.size
theorem St3.alloc {w0 w : World} {X Y Z : Obj} {p q r n : Nat} {bs : List UInt8} {v : Value} (h : St3 w0 X Y Z p q r n bs v w) (x : Obj) : (w.alloc x).ownsRow w0.heap.size 5 1 v n (enc8 bs) :=
  ownsRow_chg h.1 ((Chg.refl (fun _ => False) w).alloc x) (fun _ _ => id)
theorem St3.app {w0 w w' : World} {X Y Z : Obj} {p q r n n' : Nat} {bs ns : List UInt8} {v : Value} (h : St3 w0 X Y Z p q r n bs v w) (x : Obj) {ao : Option Addr} {cp : Nat}
    (hown : w'.ownsRow w0.heap.size 5 1 (.slice ao n' cp) n' (enc8 bs ++ enc8 ns))
    (hfrom : ∀ g, (Value.slice ao n' cp).ownBlock = some g → v.ownBlock = some g ∨ (w.alloc x).heap.size ≤ g) (hg : (w.alloc x).grownBy w' v.ownBlock) :
    St3 w0 X Y Z p q r n' (bs ++ ns) (.slice ao n' cp) w' := by
  obtain ⟨h1, h2, h3, h4, h5, h6⟩ := h
  have hc : Chg (fun k => v.ownBlock = some k) w w' := ((Chg.refl _ w).alloc x).grown hg (fun k hk => .inl hk)
  refine ⟨?_, fun g hg' => ?_, chgblk hc h3 (fun e => (h2 p e).1 rfl), chgblk hc h4 (fun e => (h2 q e).2.1 rfl), chgblk hc h5 (fun e => (h2 r e).2.2 rfl), h6.trans (hc.to_below h6.size (fun k hk => (h1.lt k hk).1))⟩
  · rw [enc8_app]
    exact hown
  · have l3 := lt_of_block h3
    have l4 := lt_of_block h4
    have l5 := lt_of_block h5
    rcases hfrom g hg' with h | h
    · exact h2 g h
    · simp at h
      omega
/-- one box more -/
theorem St.box {w0 w : World} {X Y : Obj} {p q n : Nat} {bs : List UInt8} {v : Value} (h : St w0 X Y p q n bs v w) (Z : Obj) : St3 w0 X Y Z p q w.heap.size n bs v (w.alloc Z) := by
  have h' := h
  obtain ⟨h1, h2, h3, h4, h5⟩ := h
  exact ⟨h'.alloc Z, fun g hg => ⟨(h2 g hg).1, (h2 g hg).2, by have := (h1.lt g hg).2; omega⟩, block_alloc h3, block_alloc h4, block_new _ _, h5.alloc h5.size _⟩

/-- the answer of bytes -/
def BytesPost (o : OpD) (w : World) (e : Ending) (w' : World) : Prop :=
  ∃ ao cp, e = .returned (.slice ao (bytesS o).length cp) ∧ w'.ownsRow w.heap.size 5 1 (.slice ao (bytesS o).length cp) (bytesS o).length (enc8 (bytesS o)) ∧ Below w.heap.size w w'
theorem BytesPost.mk {o : OpD} {B : List UInt8} {n : Nat} {w w' : World} {ao : Option Addr} {cp : Nat} (hB : bytesS o = B) (h : w'.ownsRow w.heap.size 5 1 (.slice ao n cp) n (enc8 B)) (hb : Below w.heap.size w w') :
    BytesPost o w (.returned (.slice ao n cp)) w' := by
  have hn : n = (bytesS o).length := by have := h.1; simp [enc8] at this; rw [hB]; omega
  subst hn
  rw [← hB] at h
  exact ⟨ao, cp, rfl, h, hb⟩

set_option maxRecDepth 100000 in
set_option maxHeartbeats 8000000 in
theorem bytes_any (w : World) (o : OpD) (hw : wfOp o) {f : Fm} (hf : formS o.kind = some f) : Calls Try.prog 20 #[.agg (encOp o).toArray] w (BytesPost o w) := by
  obtain ⟨i0, hi, hz0, hz1, hz2⟩ := info_parts u8Info
  have hfr := form_regs hf
  obtain ⟨kind, cal, a, b, c, n⟩ := o
  obtain ⟨fc, fr, fn, fl, fM⟩ := f
  obtain ⟨hw0, hw1, hw2, hw3, hw4, hw5⟩ := hw
  simp only at hw0 hw1 hw2 hw3 hw4 hw5 hfr hf
  have HF := hidI hf
  have HNK := hidI (show enc8 [toB kind] = [.int .u8 kind] from by simp [enc8, u8_back hw0.1 hw0.2])
  have HNC := hidI (show enc8 [toB cal] = [.int .u8 cal] from by simp [enc8, u8_back hw1.1 hw1.2])
  have HNA := hidI (show enc8 [toB a] = [.int .u8 a] from by simp [enc8, u8_back hw2.1 hw2.2])
  have HNB := hidI (show enc8 [toB b] = [.int .u8 b] from by simp [enc8, u8_back hw3.1 hw3.2])
  have HND := hidI (show enc8 [toB c] = [.int .u8 c] from by simp [enc8, u8_back hw4.1 hw4.2])
  unfold encOp
  go_enter Try.func20, Try.ntmps20
  go_wp2_with fail
  refine (fields_any _ _).mono ?_
  rintro e w1 ⟨rfl, hb1⟩
  rw [hf]
  have hblk := blk hb1 (block_new w _)
  have HB1 := hidI (bnextA (Below.refl _ _) hb1)
  have HBLK := hidI hblk
  have hs1 := lt_of_block hblk
  clear hb1 hf
  have S0 := hidI (show St w (.cells #[.int .u8 kind, .int .u8 cal, .int .u8 a, .int .u8 b, .int .u8 c, .int .i64 n] 25 (0, 0)) (.cells #[.bool fc, .int .i64 (fr : Int), .bool fn] 46 (0, 0)) w.heap.size w1.heap.size 1 [toB kind] (.slice (some ⟨w1.heap.size + 1, 0, none⟩) 1 1)
      ((w1.alloc (.cells #[.bool fc, .int .i64 (fr : Int), .bool fn] 46)).alloc (.cells #[.int .u8 kind] 5)) from
    ⟨own_of_full (by rw [HNK.out]; exact block_new2 _ _ _) (by omega) (by unfold maxLen; omega) rfl, fun g hg => by simp [Value.ownBlock] at hg; omega, block_alloc (block_alloc HBLK.out), block_alloc (block_new _ _), (HB1.out.alloc HB1.out.size _).alloc (by have := HB1.out.size; simp; omega) _⟩)
  have s0 : ∀ x, (w1.alloc x).cell? ⟨w.heap.size, 0, none⟩ = some (.int .u8 kind) := fun x => cell_of_block (block_alloc HBLK.out) rfl
  unfold fieldsV encFd
  simp only
  have p0 : ((w1.alloc (.cells #[.bool fc, .int .i64 (fr : Int), .bool fn] 46)).alloc (.cells #[.int .u8 kind] 5)).cell? ⟨w.heap.size, 0, none⟩ = some (.int .u8 kind) := cell_of_block S0.out.2.2.1 rfl
  have p1 : ((w1.alloc (.cells #[.bool fc, .int .i64 (fr : Int), .bool fn] 46)).alloc (.cells #[.int .u8 kind] 5)).cell? ⟨w.heap.size, 1, none⟩ = some (.int .u8 cal) := cell_of_block S0.out.2.2.1 rfl
  have p2 : ((w1.alloc (.cells #[.bool fc, .int .i64 (fr : Int), .bool fn] 46)).alloc (.cells #[.int .u8 kind] 5)).cell? ⟨w.heap.size, 2, none⟩ = some (.int .u8 a) := cell_of_block S0.out.2.2.1 rfl
  have p3 : ((w1.alloc (.cells #[.bool fc, .int .i64 (fr : Int), .bool fn] 46)).alloc (.cells #[.int .u8 kind] 5)).cell? ⟨w.heap.size, 3, none⟩ = some (.int .u8 b) := cell_of_block S0.out.2.2.1 rfl
  have p4 : ((w1.alloc (.cells #[.bool fc, .int .i64 (fr : Int), .bool fn] 46)).alloc (.cells #[.int .u8 kind] 5)).cell? ⟨w.heap.size, 4, none⟩ = some (.int .u8 c) := cell_of_block S0.out.2.2.1 rfl
  have p5 : ((w1.alloc (.cells #[.bool fc, .int .i64 (fr : Int), .bool fn] 46)).alloc (.cells #[.int .u8 kind] 5)).cell? ⟨w.heap.size, 5, none⟩ = some (.int .i64 n) := cell_of_block S0.out.2.2.1 rfl
  have q0 : ((w1.alloc (.cells #[.bool fc, .int .i64 (fr : Int), .bool fn] 46)).alloc (.cells #[.int .u8 kind] 5)).cell? ⟨w1.heap.size, 0, none⟩ = some (.bool fc) := cell_of_block S0.out.2.2.2.1 rfl
  have q1 : ((w1.alloc (.cells #[.bool fc, .int .i64 (fr : Int), .bool fn] 46)).alloc (.cells #[.int .u8 kind] 5)).cell? ⟨w1.heap.size, 1, none⟩ = some (.int .i64 (fr : Int)) := cell_of_block S0.out.2.2.2.1 rfl
  have q2 : ((w1.alloc (.cells #[.bool fc, .int .i64 (fr : Int), .bool fn] 46)).alloc (.cells #[.int .u8 kind] 5)).cell? ⟨w1.heap.size, 2, none⟩ = some (.bool fn) := cell_of_block S0.out.2.2.2.1 rfl
  have r0 : ∀ x, (((w1.alloc (.cells #[.bool fc, .int .i64 (fr : Int), .bool fn] 46)).alloc (.cells #[.int .u8 kind] 5)).alloc x).cell? ⟨w1.heap.size, 0, none⟩ = some (.bool fc) := fun x => cell_of_block (block_alloc S0.out.2.2.2.1) rfl
  have r1 : ∀ x, (((w1.alloc (.cells #[.bool fc, .int .i64 (fr : Int), .bool fn] 46)).alloc (.cells #[.int .u8 kind] 5)).alloc x).cell? ⟨w1.heap.size, 1, none⟩ = some (.int .i64 (fr : Int)) := fun x => cell_of_block (block_alloc S0.out.2.2.2.1) rfl
  have r2 : ∀ x, (((w1.alloc (.cells #[.bool fc, .int .i64 (fr : Int), .bool fn] 46)).alloc (.cells #[.int .u8 kind] 5)).alloc x).cell? ⟨w1.heap.size, 2, none⟩ = some (.bool fn) := fun x => cell_of_block (block_alloc S0.out.2.2.2.1) rfl
  cases fc with
  | false =>
    have p0 : ((w1.alloc (.cells #[.bool false, .int .i64 (fr : Int), .bool fn] 46)).alloc (.cells #[.int .u8 kind] 5)).cell? ⟨w.heap.size, 0, none⟩ = some (.int .u8 kind) := cell_of_block S0.out.2.2.1 rfl
    have p1 : ((w1.alloc (.cells #[.bool false, .int .i64 (fr : Int), .bool fn] 46)).alloc (.cells #[.int .u8 kind] 5)).cell? ⟨w.heap.size, 1, none⟩ = some (.int .u8 cal) := cell_of_block S0.out.2.2.1 rfl
    have p2 : ((w1.alloc (.cells #[.bool false, .int .i64 (fr : Int), .bool fn] 46)).alloc (.cells #[.int .u8 kind] 5)).cell? ⟨w.heap.size, 2, none⟩ = some (.int .u8 a) := cell_of_block S0.out.2.2.1 rfl
    have p3 : ((w1.alloc (.cells #[.bool false, .int .i64 (fr : Int), .bool fn] 46)).alloc (.cells #[.int .u8 kind] 5)).cell? ⟨w.heap.size, 3, none⟩ = some (.int .u8 b) := cell_of_block S0.out.2.2.1 rfl
    have p4 : ((w1.alloc (.cells #[.bool false, .int .i64 (fr : Int), .bool fn] 46)).alloc (.cells #[.int .u8 kind] 5)).cell? ⟨w.heap.size, 4, none⟩ = some (.int .u8 c) := cell_of_block S0.out.2.2.1 rfl
    have p5 : ((w1.alloc (.cells #[.bool false, .int .i64 (fr : Int), .bool fn] 46)).alloc (.cells #[.int .u8 kind] 5)).cell? ⟨w.heap.size, 5, none⟩ = some (.int .i64 n) := cell_of_block S0.out.2.2.1 rfl
    have q0 : ((w1.alloc (.cells #[.bool false, .int .i64 (fr : Int), .bool fn] 46)).alloc (.cells #[.int .u8 kind] 5)).cell? ⟨w1.heap.size, 0, none⟩ = some (.bool false) := cell_of_block S0.out.2.2.2.1 rfl
    have q1 : ((w1.alloc (.cells #[.bool false, .int .i64 (fr : Int), .bool fn] 46)).alloc (.cells #[.int .u8 kind] 5)).cell? ⟨w1.heap.size, 1, none⟩ = some (.int .i64 (fr : Int)) := cell_of_block S0.out.2.2.2.1 rfl
    have q2 : ((w1.alloc (.cells #[.bool false, .int .i64 (fr : Int), .bool fn] 46)).alloc (.cells #[.int .u8 kind] 5)).cell? ⟨w1.heap.size, 2, none⟩ = some (.bool fn) := cell_of_block S0.out.2.2.2.1 rfl
    have r0 : ∀ x, (((w1.alloc (.cells #[.bool false, .int .i64 (fr : Int), .bool fn] 46)).alloc (.cells #[.int .u8 kind] 5)).alloc x).cell? ⟨w1.heap.size, 0, none⟩ = some (.bool false) := fun x => cell_of_block (block_alloc S0.out.2.2.2.1) rfl
    have r1 : ∀ x, (((w1.alloc (.cells #[.bool false, .int .i64 (fr : Int), .bool fn] 46)).alloc (.cells #[.int .u8 kind] 5)).alloc x).cell? ⟨w1.heap.size, 1, none⟩ = some (.int .i64 (fr : Int)) := fun x => cell_of_block (block_alloc S0.out.2.2.2.1) rfl
    have r2 : ∀ x, (((w1.alloc (.cells #[.bool false, .int .i64 (fr : Int), .bool fn] 46)).alloc (.cells #[.int .u8 kind] 5)).alloc x).cell? ⟨w1.heap.size, 2, none⟩ = some (.bool fn) := fun x => cell_of_block (block_alloc S0.out.2.2.2.1) rfl
    have T0 := hidI (St.box S0.out (.cells #[.int .u8 a, .int .u8 b, .int .u8 c] 5 (0, 0)))
    go_wp2_with fail
    clear p0 p1 p2 p3 p4 p5 q0 q1 q2 r0 r1 r2
    go_loopw [7, 5] (fun i v wz => ∃ (j : Nat) (ao9 : Option Addr) (cp9 N9 : Nat), j ≤ fr ∧ i = .int .i64 (j : Int) ∧ v = .slice ao9 N9 cp9 ∧ N9 = 1 + j ∧ St3 w (.cells #[.int .u8 kind, .int .u8 cal, .int .u8 a, .int .u8 b, .int .u8 c, .int .i64 n] 25 (0, 0)) (.cells #[.bool false, .int .i64 (fr : Int), .bool fn] 46 (0, 0)) (.cells #[.int .u8 a, .int .u8 b, .int .u8 c] 5 (0, 0)) w.heap.size w1.heap.size (w1.heap.size + 1 + 1) N9 ([toB kind] ++ [toB a, toB b, toB c].take j) v wz) (fun i _ _ => ((fr : Int) - intOf i).toNat)
    case atStart => exact ⟨0, _, _, _, Nat.zero_le _, rfl, rfl, rfl, by simpa using T0.out⟩
    case round =>
      obtain ⟨j, ao9, cp9, N9, hj, rfl, rfl, hN9, hst9⟩ := hrel
      obtain ⟨BJ, hBJ⟩ : ∃ x, x = [toB kind] ++ [toB a, toB b, toB c].take j := ⟨_, rfl⟩
      rw [← hBJ] at hst9
      have HBJ := hidI hBJ
      have U0 := hidI hst9
      have g1 : wr.cell? ⟨w1.heap.size, 1, none⟩ = some (.int .i64 (fr : Int)) := cell_of_block hst9.2.2.2.1 rfl
      have g2 : wr.cell? ⟨w1.heap.size, 2, none⟩ = some (.bool fn) := cell_of_block hst9.2.2.2.1 rfl
      have hN9b : N9 ≤ 150 := by omega
      have HN9 := hidI hN9
      clear hN9 hBJ
      by_cases hjf : j < fr
      · have h9 := hst9.2.2.2.2.1
        rcases (by omega : j = 0 ∨ j = 1 ∨ j = 2) with rfl | rfl | rfl
        · have g3 : wr.cell? ⟨(w1.heap.size + 1 + 1), 0, none⟩ = some (.int .u8 a) := cell_of_block h9 rfl
          clear h9 hst9
          go_wp2_with (at_builtin; refine wpList_append_d _ rfl _ _ 49 rfl w.heap.size 5 i0 _ 1 1 Try.underlying49 hi hz0 hz1 hz2 rfl (by decide) _ _ _ rfl (U0.out.alloc _) ⟨wr.heap.size, 0, none⟩ 1 1 (enc8 [toB a]) rfl ?a0 ?b0 one_enc8 ?d0 ?e0 ?f0 ?_)
          case a0 => rfl
          case b0 => rw [HNA.out]; first | exact fun _ _ h => h | exact news_at (block_new _ _)
          case d0 => unfold maxLen; omega
          case e0 => omega
          case f0 => have h9 := U0.out.lt; simp at h9 ⊢; omega
          intro ao0 cp0 w9 hown hfrom hgr
          obtain ⟨m0, hm0⟩ : ∃ x, x = N9 + 1 := ⟨_, rfl⟩
          rw [← hm0] at hown hfrom ⊢
          have hmb0 : m0 ≤ 400 := by omega
          have HM0 := hidI hm0
          clear hm0
          have U1 := hidI (St3.app U0.out _ (ns := [toB a]) hown (fun g hg => by simpa using hfrom g hg) hgr)
          clear hown hfrom hgr
          have U2 := U1.out
          obtain ⟨B0, hB0⟩ : ∃ x, x = BJ ++ ([toB a]) := ⟨_, rfl⟩
          rw [← hB0] at U1
          have HBB0 := hidI hB0
          clear hB0
          have hme : m0 = 1 + 1 := by have h1 := HM0.out; have h2 := HN9.out; omega
          have HME := hidI hme
          clear hme
          have U3 := hidI (show St3 w (.cells #[.int .u8 kind, .int .u8 cal, .int .u8 a, .int .u8 b, .int .u8 c, .int .i64 n] 25 (0, 0)) (.cells #[.bool false, .int .i64 (fr : Int), .bool fn] 46 (0, 0)) (.cells #[.int .u8 a, .int .u8 b, .int .u8 c] 5 (0, 0)) _ w1.heap.size _ m0 ([toB kind] ++ [toB a, toB b, toB c].take 1) _ w9 from by have U2' := U2; rw [HBJ.out] at U2'; simpa [List.append_assoc] using U2')
          clear U2
          go_wp2_with fail
          exact ⟨⟨1, ao0, cp0, m0, by omega, by go_num, rfl, HME.out, U3.out⟩, by simp [intOf]; omega⟩
        · have g3 : wr.cell? ⟨(w1.heap.size + 1 + 1), 1, none⟩ = some (.int .u8 b) := cell_of_block h9 rfl
          clear h9 hst9
          go_wp2_with (at_builtin; refine wpList_append_d _ rfl _ _ 49 rfl w.heap.size 5 i0 _ 1 1 Try.underlying49 hi hz0 hz1 hz2 rfl (by decide) _ _ _ rfl (U0.out.alloc _) ⟨wr.heap.size, 0, none⟩ 1 1 (enc8 [toB b]) rfl ?a1 ?b1 one_enc8 ?d1 ?e1 ?f1 ?_)
          case a1 => rfl
          case b1 => rw [HNB.out]; first | exact fun _ _ h => h | exact news_at (block_new _ _)
          case d1 => unfold maxLen; omega
          case e1 => omega
          case f1 => have h9 := U0.out.lt; simp at h9 ⊢; omega
          intro ao1 cp1 w9 hown hfrom hgr
          obtain ⟨m1, hm1⟩ : ∃ x, x = N9 + 1 := ⟨_, rfl⟩
          rw [← hm1] at hown hfrom ⊢
          have hmb1 : m1 ≤ 400 := by omega
          have HM1 := hidI hm1
          clear hm1
          have U1 := hidI (St3.app U0.out _ (ns := [toB b]) hown (fun g hg => by simpa using hfrom g hg) hgr)
          clear hown hfrom hgr
          have U2 := U1.out
          obtain ⟨B1, hB1⟩ : ∃ x, x = BJ ++ ([toB b]) := ⟨_, rfl⟩
          rw [← hB1] at U1
          have HBB1 := hidI hB1
          clear hB1
          have hme : m1 = 1 + 2 := by have h1 := HM1.out; have h2 := HN9.out; omega
          have HME := hidI hme
          clear hme
          have U3 := hidI (show St3 w (.cells #[.int .u8 kind, .int .u8 cal, .int .u8 a, .int .u8 b, .int .u8 c, .int .i64 n] 25 (0, 0)) (.cells #[.bool false, .int .i64 (fr : Int), .bool fn] 46 (0, 0)) (.cells #[.int .u8 a, .int .u8 b, .int .u8 c] 5 (0, 0)) _ w1.heap.size _ m1 ([toB kind] ++ [toB a, toB b, toB c].take 2) _ w9 from by have U2' := U2; rw [HBJ.out] at U2'; simpa [List.append_assoc] using U2')
          clear U2
          go_wp2_with fail
          exact ⟨⟨2, ao1, cp1, m1, by omega, by go_num, rfl, HME.out, U3.out⟩, by simp [intOf]; omega⟩
        · have g3 : wr.cell? ⟨(w1.heap.size + 1 + 1), 2, none⟩ = some (.int .u8 c) := cell_of_block h9 rfl
          clear h9 hst9
          go_wp2_with (at_builtin; refine wpList_append_d _ rfl _ _ 49 rfl w.heap.size 5 i0 _ 1 1 Try.underlying49 hi hz0 hz1 hz2 rfl (by decide) _ _ _ rfl (U0.out.alloc _) ⟨wr.heap.size, 0, none⟩ 1 1 (enc8 [toB c]) rfl ?a2 ?b2 one_enc8 ?d2 ?e2 ?f2 ?_)
          case a2 => rfl
          case b2 => rw [HND.out]; first | exact fun _ _ h => h | exact news_at (block_new _ _)
          case d2 => unfold maxLen; omega
          case e2 => omega
          case f2 => have h9 := U0.out.lt; simp at h9 ⊢; omega
          intro ao2 cp2 w9 hown hfrom hgr
          obtain ⟨m2, hm2⟩ : ∃ x, x = N9 + 1 := ⟨_, rfl⟩
          rw [← hm2] at hown hfrom ⊢
          have hmb2 : m2 ≤ 400 := by omega
          have HM2 := hidI hm2
          clear hm2
          have U1 := hidI (St3.app U0.out _ (ns := [toB c]) hown (fun g hg => by simpa using hfrom g hg) hgr)
          clear hown hfrom hgr
          have U2 := U1.out
          obtain ⟨B2, hB2⟩ : ∃ x, x = BJ ++ ([toB c]) := ⟨_, rfl⟩
          rw [← hB2] at U1
          have HBB2 := hidI hB2
          clear hB2
          have hme : m2 = 1 + 3 := by have h1 := HM2.out; have h2 := HN9.out; omega
          have HME := hidI hme
          clear hme
          have U3 := hidI (show St3 w (.cells #[.int .u8 kind, .int .u8 cal, .int .u8 a, .int .u8 b, .int .u8 c, .int .i64 n] 25 (0, 0)) (.cells #[.bool false, .int .i64 (fr : Int), .bool fn] 46 (0, 0)) (.cells #[.int .u8 a, .int .u8 b, .int .u8 c] 5 (0, 0)) _ w1.heap.size _ m2 ([toB kind] ++ [toB a, toB b, toB c].take 3) _ w9 from by have U2' := U2; rw [HBJ.out] at U2'; simpa [List.append_assoc] using U2')
          clear U2
          go_wp2_with fail
          exact ⟨⟨3, ao2, cp2, m2, by omega, by go_num, rfl, HME.out, U3.out⟩, by simp [intOf]; omega⟩
      · obtain rfl : fr = j := by omega
        clear hst9
        cases fn with
        | false =>
          go_wp2_with fail
          go_ret
          exact BytesPost.mk (B := BJ) (by unfold bytesS; rw [HF.out, HBJ.out]; simp [bytesF]) U0.out.1 U0.out.2.2.2.2.2
        | true =>
          go_wp2_with fail
          go_loopw [8, 5] (fun i v wz => ∃ (t : Nat) (ao8 : Option Addr) (cp8 N8 : Nat), t ≤ 8 ∧ i = .int .i64 (t : Int) ∧ v = .slice ao8 N8 cp8 ∧ N8 = N9 + t ∧ St3 w (.cells #[.int .u8 kind, .int .u8 cal, .int .u8 a, .int .u8 b, .int .u8 c, .int .i64 n] 25 (0, 0)) (.cells #[.bool false, .int .i64 (fr : Int), .bool true] 46 (0, 0)) (.cells #[.int .u8 a, .int .u8 b, .int .u8 c] 5 (0, 0)) w.heap.size w1.heap.size (w1.heap.size + 1 + 1) N8 (BJ ++ (be8 n).take t) v wz) (fun i _ _ => (8 - intOf i).toNat)
          case atStart => exact ⟨0, _, _, _, Nat.zero_le _, rfl, rfl, rfl, by simpa using U0.out⟩
          case round =>
            obtain ⟨t, ao8, cp8, N8, ht, rfl, rfl, hN8, hst8⟩ := hrel
            obtain ⟨BT, hBT⟩ : ∃ x, x = BJ ++ (be8 n).take t := ⟨_, rfl⟩
            rw [← hBT] at hst8
            have HBT := hidI hBT
            have V0 := hidI hst8
            have g5 : wr.cell? ⟨w.heap.size, 5, none⟩ = some (.int .i64 n) := cell_of_block hst8.2.2.1 rfl
            have hN8b : N8 ≤ 200 := by omega
            have HN8 := hidI hN8
            clear hN8 hBT hst8 g1 g2
            rcases (by omega : t = 0 ∨ t = 1 ∨ t = 2 ∨ t = 3 ∨ t = 4 ∨ t = 5 ∨ t = 6 ∨ t = 7 ∨ t = 8) with rfl | rfl | rfl | rfl | rfl | rfl | rfl | rfl | rfl
            · have HV := hidI (show enc8 [byteOf n 56] = [.int .u8 (n % 18446744073709551616 / 72057594037927936 % 256)] from by
                have h1 := Int.emod_nonneg (n / 2 ^ 56) (show (256 : Int) ≠ 0 by decide)
                have h2 := Int.emod_lt_of_pos (n / 2 ^ 56) (show (0 : Int) < 256 by decide)
                simp only [enc8, byteOf, List.map_cons, List.map_nil, u8_back h1 h2]
                congr 2
                omega)
              go_wp2_with (at_builtin; refine wpList_append_d _ rfl _ _ 49 rfl w.heap.size 5 i0 _ 1 1 Try.underlying49 hi hz0 hz1 hz2 rfl (by decide) _ _ _ rfl (V0.out.alloc _) ⟨wr.heap.size, 0, none⟩ 1 1 (enc8 [byteOf n 56]) rfl ?a3 ?b3 one_enc8 ?d3 ?e3 ?f3 ?_)
              case a3 => rfl
              case b3 => rw [HV.out]; first | exact fun _ _ h => h | exact news_at (block_new _ _)
              case d3 => unfold maxLen; omega
              case e3 => omega
              case f3 => have h9 := V0.out.lt; simp at h9 ⊢; omega
              intro ao3 cp3 w9 hown hfrom hgr
              obtain ⟨m3, hm3⟩ : ∃ x, x = N8 + 1 := ⟨_, rfl⟩
              rw [← hm3] at hown hfrom ⊢
              have hmb3 : m3 ≤ 400 := by omega
              have HM3 := hidI hm3
              clear hm3
              have V1 := hidI (St3.app V0.out _ (ns := [byteOf n 56]) hown (fun g hg => by simpa using hfrom g hg) hgr)
              clear hown hfrom hgr
              have V2 := V1.out
              obtain ⟨B3, hB3⟩ : ∃ x, x = BT ++ ([byteOf n 56]) := ⟨_, rfl⟩
              rw [← hB3] at V1
              have HBB3 := hidI hB3
              clear hB3
              have hme : m3 = N9 + 1 := by have h1 := HM3.out; have h2 := HN8.out; omega
              have HME := hidI hme
              clear hme
              have V3 := hidI (show St3 w (.cells #[.int .u8 kind, .int .u8 cal, .int .u8 a, .int .u8 b, .int .u8 c, .int .i64 n] 25 (0, 0)) (.cells #[.bool false, .int .i64 (fr : Int), .bool true] 46 (0, 0)) (.cells #[.int .u8 a, .int .u8 b, .int .u8 c] 5 (0, 0)) _ w1.heap.size _ m3 (BJ ++ (be8 n).take 1) _ w9 from by have V2' := V2; rw [HBT.out] at V2'; simpa [be8, List.append_assoc] using V2')
              clear V2
              go_wp2_with fail
              exact ⟨⟨1, ao3, cp3, m3, by omega, by go_num, rfl, HME.out, V3.out⟩, by simp [intOf]⟩
            · have HV := hidI (show enc8 [byteOf n 48] = [.int .u8 (n % 18446744073709551616 / 281474976710656 % 256)] from by
                have h1 := Int.emod_nonneg (n / 2 ^ 48) (show (256 : Int) ≠ 0 by decide)
                have h2 := Int.emod_lt_of_pos (n / 2 ^ 48) (show (0 : Int) < 256 by decide)
                simp only [enc8, byteOf, List.map_cons, List.map_nil, u8_back h1 h2]
                congr 2
                omega)
              go_wp2_with (at_builtin; refine wpList_append_d _ rfl _ _ 49 rfl w.heap.size 5 i0 _ 1 1 Try.underlying49 hi hz0 hz1 hz2 rfl (by decide) _ _ _ rfl (V0.out.alloc _) ⟨wr.heap.size, 0, none⟩ 1 1 (enc8 [byteOf n 48]) rfl ?a4 ?b4 one_enc8 ?d4 ?e4 ?f4 ?_)
              case a4 => rfl
              case b4 => rw [HV.out]; first | exact fun _ _ h => h | exact news_at (block_new _ _)
              case d4 => unfold maxLen; omega
              case e4 => omega
              case f4 => have h9 := V0.out.lt; simp at h9 ⊢; omega
              intro ao4 cp4 w9 hown hfrom hgr
              obtain ⟨m4, hm4⟩ : ∃ x, x = N8 + 1 := ⟨_, rfl⟩
              rw [← hm4] at hown hfrom ⊢
              have hmb4 : m4 ≤ 400 := by omega
              have HM4 := hidI hm4
              clear hm4
              have V1 := hidI (St3.app V0.out _ (ns := [byteOf n 48]) hown (fun g hg => by simpa using hfrom g hg) hgr)
              clear hown hfrom hgr
              have V2 := V1.out
              obtain ⟨B4, hB4⟩ : ∃ x, x = BT ++ ([byteOf n 48]) := ⟨_, rfl⟩
              rw [← hB4] at V1
              have HBB4 := hidI hB4
              clear hB4
              have hme : m4 = N9 + 2 := by have h1 := HM4.out; have h2 := HN8.out; omega
              have HME := hidI hme
              clear hme
              have V3 := hidI (show St3 w (.cells #[.int .u8 kind, .int .u8 cal, .int .u8 a, .int .u8 b, .int .u8 c, .int .i64 n] 25 (0, 0)) (.cells #[.bool false, .int .i64 (fr : Int), .bool true] 46 (0, 0)) (.cells #[.int .u8 a, .int .u8 b, .int .u8 c] 5 (0, 0)) _ w1.heap.size _ m4 (BJ ++ (be8 n).take 2) _ w9 from by have V2' := V2; rw [HBT.out] at V2'; simpa [be8, List.append_assoc] using V2')
              clear V2
              go_wp2_with fail
              exact ⟨⟨2, ao4, cp4, m4, by omega, by go_num, rfl, HME.out, V3.out⟩, by simp [intOf]⟩
            · have HV := hidI (show enc8 [byteOf n 40] = [.int .u8 (n % 18446744073709551616 / 1099511627776 % 256)] from by
                have h1 := Int.emod_nonneg (n / 2 ^ 40) (show (256 : Int) ≠ 0 by decide)
                have h2 := Int.emod_lt_of_pos (n / 2 ^ 40) (show (0 : Int) < 256 by decide)
                simp only [enc8, byteOf, List.map_cons, List.map_nil, u8_back h1 h2]
                congr 2
                omega)
              go_wp2_with (at_builtin; refine wpList_append_d _ rfl _ _ 49 rfl w.heap.size 5 i0 _ 1 1 Try.underlying49 hi hz0 hz1 hz2 rfl (by decide) _ _ _ rfl (V0.out.alloc _) ⟨wr.heap.size, 0, none⟩ 1 1 (enc8 [byteOf n 40]) rfl ?a5 ?b5 one_enc8 ?d5 ?e5 ?f5 ?_)
              case a5 => rfl
              case b5 => rw [HV.out]; first | exact fun _ _ h => h | exact news_at (block_new _ _)
              case d5 => unfold maxLen; omega
              case e5 => omega
              case f5 => have h9 := V0.out.lt; simp at h9 ⊢; omega
              intro ao5 cp5 w9 hown hfrom hgr
              obtain ⟨m5, hm5⟩ : ∃ x, x = N8 + 1 := ⟨_, rfl⟩
              rw [← hm5] at hown hfrom ⊢
              have hmb5 : m5 ≤ 400 := by omega
              have HM5 := hidI hm5
              clear hm5
              have V1 := hidI (St3.app V0.out _ (ns := [byteOf n 40]) hown (fun g hg => by simpa using hfrom g hg) hgr)
              clear hown hfrom hgr
              have V2 := V1.out
              obtain ⟨B5, hB5⟩ : ∃ x, x = BT ++ ([byteOf n 40]) := ⟨_, rfl⟩
              rw [← hB5] at V1
              have HBB5 := hidI hB5
              clear hB5
              have hme : m5 = N9 + 3 := by have h1 := HM5.out; have h2 := HN8.out; omega
              have HME := hidI hme
              clear hme
              have V3 := hidI (show St3 w (.cells #[.int .u8 kind, .int .u8 cal, .int .u8 a, .int .u8 b, .int .u8 c, .int .i64 n] 25 (0, 0)) (.cells #[.bool false, .int .i64 (fr : Int), .bool true] 46 (0, 0)) (.cells #[.int .u8 a, .int .u8 b, .int .u8 c] 5 (0, 0)) _ w1.heap.size _ m5 (BJ ++ (be8 n).take 3) _ w9 from by have V2' := V2; rw [HBT.out] at V2'; simpa [be8, List.append_assoc] using V2')
              clear V2
              go_wp2_with fail
              exact ⟨⟨3, ao5, cp5, m5, by omega, by go_num, rfl, HME.out, V3.out⟩, by simp [intOf]⟩
            · have HV := hidI (show enc8 [byteOf n 32] = [.int .u8 (n % 18446744073709551616 / 4294967296 % 256)] from by
                have h1 := Int.emod_nonneg (n / 2 ^ 32) (show (256 : Int) ≠ 0 by decide)
                have h2 := Int.emod_lt_of_pos (n / 2 ^ 32) (show (0 : Int) < 256 by decide)
                simp only [enc8, byteOf, List.map_cons, List.map_nil, u8_back h1 h2]
                congr 2
                omega)
              go_wp2_with (at_builtin; refine wpList_append_d _ rfl _ _ 49 rfl w.heap.size 5 i0 _ 1 1 Try.underlying49 hi hz0 hz1 hz2 rfl (by decide) _ _ _ rfl (V0.out.alloc _) ⟨wr.heap.size, 0, none⟩ 1 1 (enc8 [byteOf n 32]) rfl ?a6 ?b6 one_enc8 ?d6 ?e6 ?f6 ?_)
              case a6 => rfl
              case b6 => rw [HV.out]; first | exact fun _ _ h => h | exact news_at (block_new _ _)
              case d6 => unfold maxLen; omega
              case e6 => omega
              case f6 => have h9 := V0.out.lt; simp at h9 ⊢; omega
              intro ao6 cp6 w9 hown hfrom hgr
              obtain ⟨m6, hm6⟩ : ∃ x, x = N8 + 1 := ⟨_, rfl⟩
              rw [← hm6] at hown hfrom ⊢
              have hmb6 : m6 ≤ 400 := by omega
              have HM6 := hidI hm6
              clear hm6
              have V1 := hidI (St3.app V0.out _ (ns := [byteOf n 32]) hown (fun g hg => by simpa using hfrom g hg) hgr)
              clear hown hfrom hgr
              have V2 := V1.out
              obtain ⟨B6, hB6⟩ : ∃ x, x = BT ++ ([byteOf n 32]) := ⟨_, rfl⟩
              rw [← hB6] at V1
              have HBB6 := hidI hB6
              clear hB6
              have hme : m6 = N9 + 4 := by have h1 := HM6.out; have h2 := HN8.out; omega
              have HME := hidI hme
              clear hme
              have V3 := hidI (show St3 w (.cells #[.int .u8 kind, .int .u8 cal, .int .u8 a, .int .u8 b, .int .u8 c, .int .i64 n] 25 (0, 0)) (.cells #[.bool false, .int .i64 (fr : Int), .bool true] 46 (0, 0)) (.cells #[.int .u8 a, .int .u8 b, .int .u8 c] 5 (0, 0)) _ w1.heap.size _ m6 (BJ ++ (be8 n).take 4) _ w9 from by have V2' := V2; rw [HBT.out] at V2'; simpa [be8, List.append_assoc] using V2')
              clear V2
              go_wp2_with fail
              exact ⟨⟨4, ao6, cp6, m6, by omega, by go_num, rfl, HME.out, V3.out⟩, by simp [intOf]⟩
            · have HV := hidI (show enc8 [byteOf n 24] = [.int .u8 (n % 18446744073709551616 / 16777216 % 256)] from by
                have h1 := Int.emod_nonneg (n / 2 ^ 24) (show (256 : Int) ≠ 0 by decide)
                have h2 := Int.emod_lt_of_pos (n / 2 ^ 24) (show (0 : Int) < 256 by decide)
                simp only [enc8, byteOf, List.map_cons, List.map_nil, u8_back h1 h2]
                congr 2
                omega)
              go_wp2_with (at_builtin; refine wpList_append_d _ rfl _ _ 49 rfl w.heap.size 5 i0 _ 1 1 Try.underlying49 hi hz0 hz1 hz2 rfl (by decide) _ _ _ rfl (V0.out.alloc _) ⟨wr.heap.size, 0, none⟩ 1 1 (enc8 [byteOf n 24]) rfl ?a7 ?b7 one_enc8 ?d7 ?e7 ?f7 ?_)
              case a7 => rfl
              case b7 => rw [HV.out]; first | exact fun _ _ h => h | exact news_at (block_new _ _)
              case d7 => unfold maxLen; omega
              case e7 => omega
              case f7 => have h9 := V0.out.lt; simp at h9 ⊢; omega
              intro ao7 cp7 w9 hown hfrom hgr
              obtain ⟨m7, hm7⟩ : ∃ x, x = N8 + 1 := ⟨_, rfl⟩
              rw [← hm7] at hown hfrom ⊢
              have hmb7 : m7 ≤ 400 := by omega
              have HM7 := hidI hm7
              clear hm7
              have V1 := hidI (St3.app V0.out _ (ns := [byteOf n 24]) hown (fun g hg => by simpa using hfrom g hg) hgr)
              clear hown hfrom hgr
              have V2 := V1.out
              obtain ⟨B7, hB7⟩ : ∃ x, x = BT ++ ([byteOf n 24]) := ⟨_, rfl⟩
              rw [← hB7] at V1
              have HBB7 := hidI hB7
              clear hB7
              have hme : m7 = N9 + 5 := by have h1 := HM7.out; have h2 := HN8.out; omega
              have HME := hidI hme
              clear hme
              have V3 := hidI (show St3 w (.cells #[.int .u8 kind, .int .u8 cal, .int .u8 a, .int .u8 b, .int .u8 c, .int .i64 n] 25 (0, 0)) (.cells #[.bool false, .int .i64 (fr : Int), .bool true] 46 (0, 0)) (.cells #[.int .u8 a, .int .u8 b, .int .u8 c] 5 (0, 0)) _ w1.heap.size _ m7 (BJ ++ (be8 n).take 5) _ w9 from by have V2' := V2; rw [HBT.out] at V2'; simpa [be8, List.append_assoc] using V2')
              clear V2
              go_wp2_with fail
              exact ⟨⟨5, ao7, cp7, m7, by omega, by go_num, rfl, HME.out, V3.out⟩, by simp [intOf]⟩
            · have HV := hidI (show enc8 [byteOf n 16] = [.int .u8 (n % 18446744073709551616 / 65536 % 256)] from by
                have h1 := Int.emod_nonneg (n / 2 ^ 16) (show (256 : Int) ≠ 0 by decide)
                have h2 := Int.emod_lt_of_pos (n / 2 ^ 16) (show (0 : Int) < 256 by decide)
                simp only [enc8, byteOf, List.map_cons, List.map_nil, u8_back h1 h2]
                congr 2
                omega)
              go_wp2_with (at_builtin; refine wpList_append_d _ rfl _ _ 49 rfl w.heap.size 5 i0 _ 1 1 Try.underlying49 hi hz0 hz1 hz2 rfl (by decide) _ _ _ rfl (V0.out.alloc _) ⟨wr.heap.size, 0, none⟩ 1 1 (enc8 [byteOf n 16]) rfl ?a8 ?b8 one_enc8 ?d8 ?e8 ?f8 ?_)
              case a8 => rfl
              case b8 => rw [HV.out]; first | exact fun _ _ h => h | exact news_at (block_new _ _)
              case d8 => unfold maxLen; omega
              case e8 => omega
              case f8 => have h9 := V0.out.lt; simp at h9 ⊢; omega
              intro ao8 cp8 w9 hown hfrom hgr
              obtain ⟨m8, hm8⟩ : ∃ x, x = N8 + 1 := ⟨_, rfl⟩
              rw [← hm8] at hown hfrom ⊢
              have hmb8 : m8 ≤ 400 := by omega
              have HM8 := hidI hm8
              clear hm8
              have V1 := hidI (St3.app V0.out _ (ns := [byteOf n 16]) hown (fun g hg => by simpa using hfrom g hg) hgr)
              clear hown hfrom hgr
              have V2 := V1.out
              obtain ⟨B8, hB8⟩ : ∃ x, x = BT ++ ([byteOf n 16]) := ⟨_, rfl⟩
              rw [← hB8] at V1
              have HBB8 := hidI hB8
              clear hB8
              have hme : m8 = N9 + 6 := by have h1 := HM8.out; have h2 := HN8.out; omega
              have HME := hidI hme
              clear hme
              have V3 := hidI (show St3 w (.cells #[.int .u8 kind, .int .u8 cal, .int .u8 a, .int .u8 b, .int .u8 c, .int .i64 n] 25 (0, 0)) (.cells #[.bool false, .int .i64 (fr : Int), .bool true] 46 (0, 0)) (.cells #[.int .u8 a, .int .u8 b, .int .u8 c] 5 (0, 0)) _ w1.heap.size _ m8 (BJ ++ (be8 n).take 6) _ w9 from by have V2' := V2; rw [HBT.out] at V2'; simpa [be8, List.append_assoc] using V2')
              clear V2
              go_wp2_with fail
              exact ⟨⟨6, ao8, cp8, m8, by omega, by go_num, rfl, HME.out, V3.out⟩, by simp [intOf]⟩
            · have HV := hidI (show enc8 [byteOf n 8] = [.int .u8 (n % 18446744073709551616 / 256 % 256)] from by
                have h1 := Int.emod_nonneg (n / 2 ^ 8) (show (256 : Int) ≠ 0 by decide)
                have h2 := Int.emod_lt_of_pos (n / 2 ^ 8) (show (0 : Int) < 256 by decide)
                simp only [enc8, byteOf, List.map_cons, List.map_nil, u8_back h1 h2]
                congr 2
                omega)
              go_wp2_with (at_builtin; refine wpList_append_d _ rfl _ _ 49 rfl w.heap.size 5 i0 _ 1 1 Try.underlying49 hi hz0 hz1 hz2 rfl (by decide) _ _ _ rfl (V0.out.alloc _) ⟨wr.heap.size, 0, none⟩ 1 1 (enc8 [byteOf n 8]) rfl ?a9 ?b9 one_enc8 ?d9 ?e9 ?f9 ?_)
              case a9 => rfl
              case b9 => rw [HV.out]; first | exact fun _ _ h => h | exact news_at (block_new _ _)
              case d9 => unfold maxLen; omega
              case e9 => omega
              case f9 => have h9 := V0.out.lt; simp at h9 ⊢; omega
              intro ao9 cp9 w9 hown hfrom hgr
              obtain ⟨m9, hm9⟩ : ∃ x, x = N8 + 1 := ⟨_, rfl⟩
              rw [← hm9] at hown hfrom ⊢
              have hmb9 : m9 ≤ 400 := by omega
              have HM9 := hidI hm9
              clear hm9
              have V1 := hidI (St3.app V0.out _ (ns := [byteOf n 8]) hown (fun g hg => by simpa using hfrom g hg) hgr)
              clear hown hfrom hgr
              have V2 := V1.out
              obtain ⟨B9, hB9⟩ : ∃ x, x = BT ++ ([byteOf n 8]) := ⟨_, rfl⟩
              rw [← hB9] at V1
              have HBB9 := hidI hB9
              clear hB9
              have hme : m9 = N9 + 7 := by have h1 := HM9.out; have h2 := HN8.out; omega
              have HME := hidI hme
              clear hme
              have V3 := hidI (show St3 w (.cells #[.int .u8 kind, .int .u8 cal, .int .u8 a, .int .u8 b, .int .u8 c, .int .i64 n] 25 (0, 0)) (.cells #[.bool false, .int .i64 (fr : Int), .bool true] 46 (0, 0)) (.cells #[.int .u8 a, .int .u8 b, .int .u8 c] 5 (0, 0)) _ w1.heap.size _ m9 (BJ ++ (be8 n).take 7) _ w9 from by have V2' := V2; rw [HBT.out] at V2'; simpa [be8, List.append_assoc] using V2')
              clear V2
              go_wp2_with fail
              exact ⟨⟨7, ao9, cp9, m9, by omega, by go_num, rfl, HME.out, V3.out⟩, by simp [intOf]⟩
            · have HV := hidI (show enc8 [byteOf n 0] = [.int .u8 (n % 18446744073709551616 % 256)] from by
                have h1 := Int.emod_nonneg (n / 2 ^ 0) (show (256 : Int) ≠ 0 by decide)
                have h2 := Int.emod_lt_of_pos (n / 2 ^ 0) (show (0 : Int) < 256 by decide)
                simp only [enc8, byteOf, List.map_cons, List.map_nil, u8_back h1 h2]
                congr 2
                omega)
              go_wp2_with (at_builtin; refine wpList_append_d _ rfl _ _ 49 rfl w.heap.size 5 i0 _ 1 1 Try.underlying49 hi hz0 hz1 hz2 rfl (by decide) _ _ _ rfl (V0.out.alloc _) ⟨wr.heap.size, 0, none⟩ 1 1 (enc8 [byteOf n 0]) rfl ?a10 ?b10 one_enc8 ?d10 ?e10 ?f10 ?_)
              case a10 => rfl
              case b10 => rw [HV.out]; first | exact fun _ _ h => h | exact news_at (block_new _ _)
              case d10 => unfold maxLen; omega
              case e10 => omega
              case f10 => have h9 := V0.out.lt; simp at h9 ⊢; omega
              intro ao10 cp10 w9 hown hfrom hgr
              obtain ⟨m10, hm10⟩ : ∃ x, x = N8 + 1 := ⟨_, rfl⟩
              rw [← hm10] at hown hfrom ⊢
              have hmb10 : m10 ≤ 400 := by omega
              have HM10 := hidI hm10
              clear hm10
              have V1 := hidI (St3.app V0.out _ (ns := [byteOf n 0]) hown (fun g hg => by simpa using hfrom g hg) hgr)
              clear hown hfrom hgr
              have V2 := V1.out
              obtain ⟨B10, hB10⟩ : ∃ x, x = BT ++ ([byteOf n 0]) := ⟨_, rfl⟩
              rw [← hB10] at V1
              have HBB10 := hidI hB10
              clear hB10
              have hme : m10 = N9 + 8 := by have h1 := HM10.out; have h2 := HN8.out; omega
              have HME := hidI hme
              clear hme
              have V3 := hidI (show St3 w (.cells #[.int .u8 kind, .int .u8 cal, .int .u8 a, .int .u8 b, .int .u8 c, .int .i64 n] 25 (0, 0)) (.cells #[.bool false, .int .i64 (fr : Int), .bool true] 46 (0, 0)) (.cells #[.int .u8 a, .int .u8 b, .int .u8 c] 5 (0, 0)) _ w1.heap.size _ m10 (BJ ++ (be8 n).take 8) _ w9 from by have V2' := V2; rw [HBT.out] at V2'; simpa [be8, List.append_assoc] using V2')
              clear V2
              go_wp2_with fail
              exact ⟨⟨8, ao10, cp10, m10, by omega, by go_num, rfl, HME.out, V3.out⟩, by simp [intOf]⟩
            · go_wp2_with fail
              go_ret
              exact BytesPost.mk (B := BT) (by unfold bytesS; rw [HF.out, HBT.out, HBJ.out]; simp [bytesF, be8]) V0.out.1 V0.out.2.2.2.2.2
  | true =>
    go_wp2_with (at_builtin; refine wpList_append_d _ rfl _ _ 49 rfl w.heap.size 5 i0 _ 1 1 Try.underlying49 hi hz0 hz1 hz2 rfl (by decide) _ _ _ rfl (S0.out.alloc _) ⟨w1.heap.size + 1 + 1, 0, none⟩ 1 1 (enc8 [toB cal]) rfl ?a11 ?b11 one_enc8 ?d11 ?e11 ?f11 ?_)
    case a11 => rfl
    case b11 => rw [HNC.out]; first | exact fun _ _ h => h | exact news_at (by simpa using block_new ((w1.alloc (.cells #[.bool true, .int .i64 (fr : Int), .bool fn] 46)).alloc (.cells #[.int .u8 kind] 5)) (.cells #[.int .u8 cal] 5))
    case d11 => unfold maxLen; omega
    case e11 => omega
    case f11 => have h9 := S0.out.lt; simp at h9 ⊢; omega
    intro ao11 cp11 w4 hown hfrom hgr
    obtain ⟨m11, hm11⟩ : ∃ x, x = 2 := ⟨_, rfl⟩
    rw [← hm11] at hown hfrom ⊢
    have hmb11 : m11 ≤ 100 := by omega
    have HM11 := hidI hm11
    clear hm11
    have S2 := hidI (St.app S0.out _ (ns := [toB cal]) hown (fun g hg => by simpa using hfrom g hg) hgr)
    clear hown hfrom hgr
    obtain ⟨B11, hB11⟩ : ∃ x, x = [toB kind] ++ ([toB cal]) := ⟨_, rfl⟩
    rw [← hB11] at S2
    have HBB11 := hidI hB11
    clear hB11
    clear p0 p1 p2 p3 p4 p5 q0 q1 q2 r0 r1 r2
    have p0 : (w4).cell? ⟨w.heap.size, 0, none⟩ = some (.int .u8 kind) := cell_of_block S2.out.2.2.1 rfl
    have p1 : (w4).cell? ⟨w.heap.size, 1, none⟩ = some (.int .u8 cal) := cell_of_block S2.out.2.2.1 rfl
    have p2 : (w4).cell? ⟨w.heap.size, 2, none⟩ = some (.int .u8 a) := cell_of_block S2.out.2.2.1 rfl
    have p3 : (w4).cell? ⟨w.heap.size, 3, none⟩ = some (.int .u8 b) := cell_of_block S2.out.2.2.1 rfl
    have p4 : (w4).cell? ⟨w.heap.size, 4, none⟩ = some (.int .u8 c) := cell_of_block S2.out.2.2.1 rfl
    have p5 : (w4).cell? ⟨w.heap.size, 5, none⟩ = some (.int .i64 n) := cell_of_block S2.out.2.2.1 rfl
    have q0 : (w4).cell? ⟨w1.heap.size, 0, none⟩ = some (.bool true) := cell_of_block S2.out.2.2.2.1 rfl
    have q1 : (w4).cell? ⟨w1.heap.size, 1, none⟩ = some (.int .i64 (fr : Int)) := cell_of_block S2.out.2.2.2.1 rfl
    have q2 : (w4).cell? ⟨w1.heap.size, 2, none⟩ = some (.bool fn) := cell_of_block S2.out.2.2.2.1 rfl
    have r0 : ∀ x, ((w4).alloc x).cell? ⟨w1.heap.size, 0, none⟩ = some (.bool true) := fun x => cell_of_block (block_alloc S2.out.2.2.2.1) rfl
    have r1 : ∀ x, ((w4).alloc x).cell? ⟨w1.heap.size, 1, none⟩ = some (.int .i64 (fr : Int)) := fun x => cell_of_block (block_alloc S2.out.2.2.2.1) rfl
    have r2 : ∀ x, ((w4).alloc x).cell? ⟨w1.heap.size, 2, none⟩ = some (.bool fn) := fun x => cell_of_block (block_alloc S2.out.2.2.2.1) rfl
    have T0 := hidI (St.box S2.out (.cells #[.int .u8 a, .int .u8 b, .int .u8 c] 5 (0, 0)))
    go_wp2_with fail
    clear p0 p1 p2 p3 p4 p5 q0 q1 q2 r0 r1 r2
    go_loopw [7, 5] (fun i v wz => ∃ (j : Nat) (ao9 : Option Addr) (cp9 N9 : Nat), j ≤ fr ∧ i = .int .i64 (j : Int) ∧ v = .slice ao9 N9 cp9 ∧ N9 = m11 + j ∧ St3 w (.cells #[.int .u8 kind, .int .u8 cal, .int .u8 a, .int .u8 b, .int .u8 c, .int .i64 n] 25 (0, 0)) (.cells #[.bool true, .int .i64 (fr : Int), .bool fn] 46 (0, 0)) (.cells #[.int .u8 a, .int .u8 b, .int .u8 c] 5 (0, 0)) w.heap.size w1.heap.size w4.heap.size N9 (B11 ++ [toB a, toB b, toB c].take j) v wz) (fun i _ _ => ((fr : Int) - intOf i).toNat)
    case atStart => exact ⟨0, _, _, _, Nat.zero_le _, rfl, rfl, rfl, by simpa using T0.out⟩
    case round =>
      obtain ⟨j, ao9, cp9, N9, hj, rfl, rfl, hN9, hst9⟩ := hrel
      obtain ⟨BJ, hBJ⟩ : ∃ x, x = B11 ++ [toB a, toB b, toB c].take j := ⟨_, rfl⟩
      rw [← hBJ] at hst9
      have HBJ := hidI hBJ
      have U0 := hidI hst9
      have g1 : wr.cell? ⟨w1.heap.size, 1, none⟩ = some (.int .i64 (fr : Int)) := cell_of_block hst9.2.2.2.1 rfl
      have g2 : wr.cell? ⟨w1.heap.size, 2, none⟩ = some (.bool fn) := cell_of_block hst9.2.2.2.1 rfl
      have hN9b : N9 ≤ 150 := by omega
      have HN9 := hidI hN9
      clear hN9 hBJ
      by_cases hjf : j < fr
      · have h9 := hst9.2.2.2.2.1
        rcases (by omega : j = 0 ∨ j = 1 ∨ j = 2) with rfl | rfl | rfl
        · have g3 : wr.cell? ⟨w4.heap.size, 0, none⟩ = some (.int .u8 a) := cell_of_block h9 rfl
          clear h9 hst9
          go_wp2_with (at_builtin; refine wpList_append_d _ rfl _ _ 49 rfl w.heap.size 5 i0 _ 1 1 Try.underlying49 hi hz0 hz1 hz2 rfl (by decide) _ _ _ rfl (U0.out.alloc _) ⟨wr.heap.size, 0, none⟩ 1 1 (enc8 [toB a]) rfl ?a12 ?b12 one_enc8 ?d12 ?e12 ?f12 ?_)
          case a12 => rfl
          case b12 => rw [HNA.out]; first | exact fun _ _ h => h | exact news_at (block_new _ _)
          case d12 => unfold maxLen; omega
          case e12 => omega
          case f12 => have h9 := U0.out.lt; simp at h9 ⊢; omega
          intro ao12 cp12 w9 hown hfrom hgr
          obtain ⟨m12, hm12⟩ : ∃ x, x = N9 + 1 := ⟨_, rfl⟩
          rw [← hm12] at hown hfrom ⊢
          have hmb12 : m12 ≤ 400 := by omega
          have HM12 := hidI hm12
          clear hm12
          have U1 := hidI (St3.app U0.out _ (ns := [toB a]) hown (fun g hg => by simpa using hfrom g hg) hgr)
          clear hown hfrom hgr
          have U2 := U1.out
          obtain ⟨B12, hB12⟩ : ∃ x, x = BJ ++ ([toB a]) := ⟨_, rfl⟩
          rw [← hB12] at U1
          have HBB12 := hidI hB12
          clear hB12
          have hme : m12 = m11 + 1 := by have h1 := HM12.out; have h2 := HN9.out; omega
          have HME := hidI hme
          clear hme
          have U3 := hidI (show St3 w (.cells #[.int .u8 kind, .int .u8 cal, .int .u8 a, .int .u8 b, .int .u8 c, .int .i64 n] 25 (0, 0)) (.cells #[.bool true, .int .i64 (fr : Int), .bool fn] 46 (0, 0)) (.cells #[.int .u8 a, .int .u8 b, .int .u8 c] 5 (0, 0)) _ w1.heap.size _ m12 (B11 ++ [toB a, toB b, toB c].take 1) _ w9 from by have U2' := U2; rw [HBJ.out] at U2'; simpa [List.append_assoc] using U2')
          clear U2
          go_wp2_with fail
          exact ⟨⟨1, ao12, cp12, m12, by omega, by go_num, rfl, HME.out, U3.out⟩, by simp [intOf]; omega⟩
        · have g3 : wr.cell? ⟨w4.heap.size, 1, none⟩ = some (.int .u8 b) := cell_of_block h9 rfl
          clear h9 hst9
          go_wp2_with (at_builtin; refine wpList_append_d _ rfl _ _ 49 rfl w.heap.size 5 i0 _ 1 1 Try.underlying49 hi hz0 hz1 hz2 rfl (by decide) _ _ _ rfl (U0.out.alloc _) ⟨wr.heap.size, 0, none⟩ 1 1 (enc8 [toB b]) rfl ?a13 ?b13 one_enc8 ?d13 ?e13 ?f13 ?_)
          case a13 => rfl
          case b13 => rw [HNB.out]; first | exact fun _ _ h => h | exact news_at (block_new _ _)
          case d13 => unfold maxLen; omega
          case e13 => omega
          case f13 => have h9 := U0.out.lt; simp at h9 ⊢; omega
          intro ao13 cp13 w9 hown hfrom hgr
          obtain ⟨m13, hm13⟩ : ∃ x, x = N9 + 1 := ⟨_, rfl⟩
          rw [← hm13] at hown hfrom ⊢
          have hmb13 : m13 ≤ 400 := by omega
          have HM13 := hidI hm13
          clear hm13
          have U1 := hidI (St3.app U0.out _ (ns := [toB b]) hown (fun g hg => by simpa using hfrom g hg) hgr)
          clear hown hfrom hgr
          have U2 := U1.out
          obtain ⟨B13, hB13⟩ : ∃ x, x = BJ ++ ([toB b]) := ⟨_, rfl⟩
          rw [← hB13] at U1
          have HBB13 := hidI hB13
          clear hB13
          have hme : m13 = m11 + 2 := by have h1 := HM13.out; have h2 := HN9.out; omega
          have HME := hidI hme
          clear hme
          have U3 := hidI (show St3 w (.cells #[.int .u8 kind, .int .u8 cal, .int .u8 a, .int .u8 b, .int .u8 c, .int .i64 n] 25 (0, 0)) (.cells #[.bool true, .int .i64 (fr : Int), .bool fn] 46 (0, 0)) (.cells #[.int .u8 a, .int .u8 b, .int .u8 c] 5 (0, 0)) _ w1.heap.size _ m13 (B11 ++ [toB a, toB b, toB c].take 2) _ w9 from by have U2' := U2; rw [HBJ.out] at U2'; simpa [List.append_assoc] using U2')
          clear U2
          go_wp2_with fail
          exact ⟨⟨2, ao13, cp13, m13, by omega, by go_num, rfl, HME.out, U3.out⟩, by simp [intOf]; omega⟩
        · have g3 : wr.cell? ⟨w4.heap.size, 2, none⟩ = some (.int .u8 c) := cell_of_block h9 rfl
          clear h9 hst9
          go_wp2_with (at_builtin; refine wpList_append_d _ rfl _ _ 49 rfl w.heap.size 5 i0 _ 1 1 Try.underlying49 hi hz0 hz1 hz2 rfl (by decide) _ _ _ rfl (U0.out.alloc _) ⟨wr.heap.size, 0, none⟩ 1 1 (enc8 [toB c]) rfl ?a14 ?b14 one_enc8 ?d14 ?e14 ?f14 ?_)
          case a14 => rfl
          case b14 => rw [HND.out]; first | exact fun _ _ h => h | exact news_at (block_new _ _)
          case d14 => unfold maxLen; omega
          case e14 => omega
          case f14 => have h9 := U0.out.lt; simp at h9 ⊢; omega
          intro ao14 cp14 w9 hown hfrom hgr
          obtain ⟨m14, hm14⟩ : ∃ x, x = N9 + 1 := ⟨_, rfl⟩
          rw [← hm14] at hown hfrom ⊢
          have hmb14 : m14 ≤ 400 := by omega
          have HM14 := hidI hm14
          clear hm14
          have U1 := hidI (St3.app U0.out _ (ns := [toB c]) hown (fun g hg => by simpa using hfrom g hg) hgr)
          clear hown hfrom hgr
          have U2 := U1.out
          obtain ⟨B14, hB14⟩ : ∃ x, x = BJ ++ ([toB c]) := ⟨_, rfl⟩
          rw [← hB14] at U1
          have HBB14 := hidI hB14
          clear hB14
          have hme : m14 = m11 + 3 := by have h1 := HM14.out; have h2 := HN9.out; omega
          have HME := hidI hme
          clear hme
          have U3 := hidI (show St3 w (.cells #[.int .u8 kind, .int .u8 cal, .int .u8 a, .int .u8 b, .int .u8 c, .int .i64 n] 25 (0, 0)) (.cells #[.bool true, .int .i64 (fr : Int), .bool fn] 46 (0, 0)) (.cells #[.int .u8 a, .int .u8 b, .int .u8 c] 5 (0, 0)) _ w1.heap.size _ m14 (B11 ++ [toB a, toB b, toB c].take 3) _ w9 from by have U2' := U2; rw [HBJ.out] at U2'; simpa [List.append_assoc] using U2')
          clear U2
          go_wp2_with fail
          exact ⟨⟨3, ao14, cp14, m14, by omega, by go_num, rfl, HME.out, U3.out⟩, by simp [intOf]; omega⟩
      · obtain rfl : fr = j := by omega
        clear hst9
        cases fn with
        | false =>
          go_wp2_with fail
          go_ret
          exact BytesPost.mk (B := BJ) (by unfold bytesS; rw [HF.out, HBJ.out, HBB11.out]; simp [bytesF]) U0.out.1 U0.out.2.2.2.2.2
        | true =>
          go_wp2_with fail
          go_loopw [8, 5] (fun i v wz => ∃ (t : Nat) (ao8 : Option Addr) (cp8 N8 : Nat), t ≤ 8 ∧ i = .int .i64 (t : Int) ∧ v = .slice ao8 N8 cp8 ∧ N8 = N9 + t ∧ St3 w (.cells #[.int .u8 kind, .int .u8 cal, .int .u8 a, .int .u8 b, .int .u8 c, .int .i64 n] 25 (0, 0)) (.cells #[.bool true, .int .i64 (fr : Int), .bool true] 46 (0, 0)) (.cells #[.int .u8 a, .int .u8 b, .int .u8 c] 5 (0, 0)) w.heap.size w1.heap.size w4.heap.size N8 (BJ ++ (be8 n).take t) v wz) (fun i _ _ => (8 - intOf i).toNat)
          case atStart => exact ⟨0, _, _, _, Nat.zero_le _, rfl, rfl, rfl, by simpa using U0.out⟩
          case round =>
            obtain ⟨t, ao8, cp8, N8, ht, rfl, rfl, hN8, hst8⟩ := hrel
            obtain ⟨BT, hBT⟩ : ∃ x, x = BJ ++ (be8 n).take t := ⟨_, rfl⟩
            rw [← hBT] at hst8
            have HBT := hidI hBT
            have V0 := hidI hst8
            have g5 : wr.cell? ⟨w.heap.size, 5, none⟩ = some (.int .i64 n) := cell_of_block hst8.2.2.1 rfl
            have hN8b : N8 ≤ 200 := by omega
            have HN8 := hidI hN8
            clear hN8 hBT hst8 g1 g2
            rcases (by omega : t = 0 ∨ t = 1 ∨ t = 2 ∨ t = 3 ∨ t = 4 ∨ t = 5 ∨ t = 6 ∨ t = 7 ∨ t = 8) with rfl | rfl | rfl | rfl | rfl | rfl | rfl | rfl | rfl
            · have HV := hidI (show enc8 [byteOf n 56] = [.int .u8 (n % 18446744073709551616 / 72057594037927936 % 256)] from by
                have h1 := Int.emod_nonneg (n / 2 ^ 56) (show (256 : Int) ≠ 0 by decide)
                have h2 := Int.emod_lt_of_pos (n / 2 ^ 56) (show (0 : Int) < 256 by decide)
                simp only [enc8, byteOf, List.map_cons, List.map_nil, u8_back h1 h2]
                congr 2
                omega)
              go_wp2_with (at_builtin; refine wpList_append_d _ rfl _ _ 49 rfl w.heap.size 5 i0 _ 1 1 Try.underlying49 hi hz0 hz1 hz2 rfl (by decide) _ _ _ rfl (V0.out.alloc _) ⟨wr.heap.size, 0, none⟩ 1 1 (enc8 [byteOf n 56]) rfl ?a15 ?b15 one_enc8 ?d15 ?e15 ?f15 ?_)
              case a15 => rfl
              case b15 => rw [HV.out]; first | exact fun _ _ h => h | exact news_at (block_new _ _)
              case d15 => unfold maxLen; omega
              case e15 => omega
              case f15 => have h9 := V0.out.lt; simp at h9 ⊢; omega
              intro ao15 cp15 w9 hown hfrom hgr
              obtain ⟨m15, hm15⟩ : ∃ x, x = N8 + 1 := ⟨_, rfl⟩
              rw [← hm15] at hown hfrom ⊢
              have hmb15 : m15 ≤ 400 := by omega
              have HM15 := hidI hm15
              clear hm15
              have V1 := hidI (St3.app V0.out _ (ns := [byteOf n 56]) hown (fun g hg => by simpa using hfrom g hg) hgr)
              clear hown hfrom hgr
              have V2 := V1.out
              obtain ⟨B15, hB15⟩ : ∃ x, x = BT ++ ([byteOf n 56]) := ⟨_, rfl⟩
              rw [← hB15] at V1
              have HBB15 := hidI hB15
              clear hB15
              have hme : m15 = N9 + 1 := by have h1 := HM15.out; have h2 := HN8.out; omega
              have HME := hidI hme
              clear hme
              have V3 := hidI (show St3 w (.cells #[.int .u8 kind, .int .u8 cal, .int .u8 a, .int .u8 b, .int .u8 c, .int .i64 n] 25 (0, 0)) (.cells #[.bool true, .int .i64 (fr : Int), .bool true] 46 (0, 0)) (.cells #[.int .u8 a, .int .u8 b, .int .u8 c] 5 (0, 0)) _ w1.heap.size _ m15 (BJ ++ (be8 n).take 1) _ w9 from by have V2' := V2; rw [HBT.out] at V2'; simpa [be8, List.append_assoc] using V2')
              clear V2
              go_wp2_with fail
              exact ⟨⟨1, ao15, cp15, m15, by omega, by go_num, rfl, HME.out, V3.out⟩, by simp [intOf]⟩
            · have HV := hidI (show enc8 [byteOf n 48] = [.int .u8 (n % 18446744073709551616 / 281474976710656 % 256)] from by
                have h1 := Int.emod_nonneg (n / 2 ^ 48) (show (256 : Int) ≠ 0 by decide)
                have h2 := Int.emod_lt_of_pos (n / 2 ^ 48) (show (0 : Int) < 256 by decide)
                simp only [enc8, byteOf, List.map_cons, List.map_nil, u8_back h1 h2]
                congr 2
                omega)
              go_wp2_with (at_builtin; refine wpList_append_d _ rfl _ _ 49 rfl w.heap.size 5 i0 _ 1 1 Try.underlying49 hi hz0 hz1 hz2 rfl (by decide) _ _ _ rfl (V0.out.alloc _) ⟨wr.heap.size, 0, none⟩ 1 1 (enc8 [byteOf n 48]) rfl ?a16 ?b16 one_enc8 ?d16 ?e16 ?f16 ?_)
              case a16 => rfl
              case b16 => rw [HV.out]; first | exact fun _ _ h => h | exact news_at (block_new _ _)
              case d16 => unfold maxLen; omega
              case e16 => omega
              case f16 => have h9 := V0.out.lt; simp at h9 ⊢; omega
              intro ao16 cp16 w9 hown hfrom hgr
              obtain ⟨m16, hm16⟩ : ∃ x, x = N8 + 1 := ⟨_, rfl⟩
              rw [← hm16] at hown hfrom ⊢
              have hmb16 : m16 ≤ 400 := by omega
              have HM16 := hidI hm16
              clear hm16
              have V1 := hidI (St3.app V0.out _ (ns := [byteOf n 48]) hown (fun g hg => by simpa using hfrom g hg) hgr)
              clear hown hfrom hgr
              have V2 := V1.out
              obtain ⟨B16, hB16⟩ : ∃ x, x = BT ++ ([byteOf n 48]) := ⟨_, rfl⟩
              rw [← hB16] at V1
              have HBB16 := hidI hB16
              clear hB16
              have hme : m16 = N9 + 2 := by have h1 := HM16.out; have h2 := HN8.out; omega
              have HME := hidI hme
              clear hme
              have V3 := hidI (show St3 w (.cells #[.int .u8 kind, .int .u8 cal, .int .u8 a, .int .u8 b, .int .u8 c, .int .i64 n] 25 (0, 0)) (.cells #[.bool true, .int .i64 (fr : Int), .bool true] 46 (0, 0)) (.cells #[.int .u8 a, .int .u8 b, .int .u8 c] 5 (0, 0)) _ w1.heap.size _ m16 (BJ ++ (be8 n).take 2) _ w9 from by have V2' := V2; rw [HBT.out] at V2'; simpa [be8, List.append_assoc] using V2')
              clear V2
              go_wp2_with fail
              exact ⟨⟨2, ao16, cp16, m16, by omega, by go_num, rfl, HME.out, V3.out⟩, by simp [intOf]⟩
            · have HV := hidI (show enc8 [byteOf n 40] = [.int .u8 (n % 18446744073709551616 / 1099511627776 % 256)] from by
                have h1 := Int.emod_nonneg (n / 2 ^ 40) (show (256 : Int) ≠ 0 by decide)
                have h2 := Int.emod_lt_of_pos (n / 2 ^ 40) (show (0 : Int) < 256 by decide)
                simp only [enc8, byteOf, List.map_cons, List.map_nil, u8_back h1 h2]
                congr 2
                omega)
              go_wp2_with (at_builtin; refine wpList_append_d _ rfl _ _ 49 rfl w.heap.size 5 i0 _ 1 1 Try.underlying49 hi hz0 hz1 hz2 rfl (by decide) _ _ _ rfl (V0.out.alloc _) ⟨wr.heap.size, 0, none⟩ 1 1 (enc8 [byteOf n 40]) rfl ?a17 ?b17 one_enc8 ?d17 ?e17 ?f17 ?_)
              case a17 => rfl
              case b17 => rw [HV.out]; first | exact fun _ _ h => h | exact news_at (block_new _ _)
              case d17 => unfold maxLen; omega
              case e17 => omega
              case f17 => have h9 := V0.out.lt; simp at h9 ⊢; omega
              intro ao17 cp17 w9 hown hfrom hgr
              obtain ⟨m17, hm17⟩ : ∃ x, x = N8 + 1 := ⟨_, rfl⟩
              rw [← hm17] at hown hfrom ⊢
              have hmb17 : m17 ≤ 400 := by omega
              have HM17 := hidI hm17
              clear hm17
              have V1 := hidI (St3.app V0.out _ (ns := [byteOf n 40]) hown (fun g hg => by simpa using hfrom g hg) hgr)
              clear hown hfrom hgr
              have V2 := V1.out
              obtain ⟨B17, hB17⟩ : ∃ x, x = BT ++ ([byteOf n 40]) := ⟨_, rfl⟩
              rw [← hB17] at V1
              have HBB17 := hidI hB17
              clear hB17
              have hme : m17 = N9 + 3 := by have h1 := HM17.out; have h2 := HN8.out; omega
              have HME := hidI hme
              clear hme
              have V3 := hidI (show St3 w (.cells #[.int .u8 kind, .int .u8 cal, .int .u8 a, .int .u8 b, .int .u8 c, .int .i64 n] 25 (0, 0)) (.cells #[.bool true, .int .i64 (fr : Int), .bool true] 46 (0, 0)) (.cells #[.int .u8 a, .int .u8 b, .int .u8 c] 5 (0, 0)) _ w1.heap.size _ m17 (BJ ++ (be8 n).take 3) _ w9 from by have V2' := V2; rw [HBT.out] at V2'; simpa [be8, List.append_assoc] using V2')
              clear V2
              go_wp2_with fail
              exact ⟨⟨3, ao17, cp17, m17, by omega, by go_num, rfl, HME.out, V3.out⟩, by simp [intOf]⟩
            · have HV := hidI (show enc8 [byteOf n 32] = [.int .u8 (n % 18446744073709551616 / 4294967296 % 256)] from by
                have h1 := Int.emod_nonneg (n / 2 ^ 32) (show (256 : Int) ≠ 0 by decide)
                have h2 := Int.emod_lt_of_pos (n / 2 ^ 32) (show (0 : Int) < 256 by decide)
                simp only [enc8, byteOf, List.map_cons, List.map_nil, u8_back h1 h2]
                congr 2
                omega)
              go_wp2_with (at_builtin; refine wpList_append_d _ rfl _ _ 49 rfl w.heap.size 5 i0 _ 1 1 Try.underlying49 hi hz0 hz1 hz2 rfl (by decide) _ _ _ rfl (V0.out.alloc _) ⟨wr.heap.size, 0, none⟩ 1 1 (enc8 [byteOf n 32]) rfl ?a18 ?b18 one_enc8 ?d18 ?e18 ?f18 ?_)
              case a18 => rfl
              case b18 => rw [HV.out]; first | exact fun _ _ h => h | exact news_at (block_new _ _)
              case d18 => unfold maxLen; omega
              case e18 => omega
              case f18 => have h9 := V0.out.lt; simp at h9 ⊢; omega
              intro ao18 cp18 w9 hown hfrom hgr
              obtain ⟨m18, hm18⟩ : ∃ x, x = N8 + 1 := ⟨_, rfl⟩
              rw [← hm18] at hown hfrom ⊢
              have hmb18 : m18 ≤ 400 := by omega
              have HM18 := hidI hm18
              clear hm18
              have V1 := hidI (St3.app V0.out _ (ns := [byteOf n 32]) hown (fun g hg => by simpa using hfrom g hg) hgr)
              clear hown hfrom hgr
              have V2 := V1.out
              obtain ⟨B18, hB18⟩ : ∃ x, x = BT ++ ([byteOf n 32]) := ⟨_, rfl⟩
              rw [← hB18] at V1
              have HBB18 := hidI hB18
              clear hB18
              have hme : m18 = N9 + 4 := by have h1 := HM18.out; have h2 := HN8.out; omega
              have HME := hidI hme
              clear hme
              have V3 := hidI (show St3 w (.cells #[.int .u8 kind, .int .u8 cal, .int .u8 a, .int .u8 b, .int .u8 c, .int .i64 n] 25 (0, 0)) (.cells #[.bool true, .int .i64 (fr : Int), .bool true] 46 (0, 0)) (.cells #[.int .u8 a, .int .u8 b, .int .u8 c] 5 (0, 0)) _ w1.heap.size _ m18 (BJ ++ (be8 n).take 4) _ w9 from by have V2' := V2; rw [HBT.out] at V2'; simpa [be8, List.append_assoc] using V2')
              clear V2
              go_wp2_with fail
              exact ⟨⟨4, ao18, cp18, m18, by omega, by go_num, rfl, HME.out, V3.out⟩, by simp [intOf]⟩
            · have HV := hidI (show enc8 [byteOf n 24] = [.int .u8 (n % 18446744073709551616 / 16777216 % 256)] from by
                have h1 := Int.emod_nonneg (n / 2 ^ 24) (show (256 : Int) ≠ 0 by decide)
                have h2 := Int.emod_lt_of_pos (n / 2 ^ 24) (show (0 : Int) < 256 by decide)
                simp only [enc8, byteOf, List.map_cons, List.map_nil, u8_back h1 h2]
                congr 2
                omega)
              go_wp2_with (at_builtin; refine wpList_append_d _ rfl _ _ 49 rfl w.heap.size 5 i0 _ 1 1 Try.underlying49 hi hz0 hz1 hz2 rfl (by decide) _ _ _ rfl (V0.out.alloc _) ⟨wr.heap.size, 0, none⟩ 1 1 (enc8 [byteOf n 24]) rfl ?a19 ?b19 one_enc8 ?d19 ?e19 ?f19 ?_)
              case a19 => rfl
              case b19 => rw [HV.out]; first | exact fun _ _ h => h | exact news_at (block_new _ _)
              case d19 => unfold maxLen; omega
              case e19 => omega
              case f19 => have h9 := V0.out.lt; simp at h9 ⊢; omega
              intro ao19 cp19 w9 hown hfrom hgr
              obtain ⟨m19, hm19⟩ : ∃ x, x = N8 + 1 := ⟨_, rfl⟩
              rw [← hm19] at hown hfrom ⊢
              have hmb19 : m19 ≤ 400 := by omega
              have HM19 := hidI hm19
              clear hm19
              have V1 := hidI (St3.app V0.out _ (ns := [byteOf n 24]) hown (fun g hg => by simpa using hfrom g hg) hgr)
              clear hown hfrom hgr
              have V2 := V1.out
              obtain ⟨B19, hB19⟩ : ∃ x, x = BT ++ ([byteOf n 24]) := ⟨_, rfl⟩
              rw [← hB19] at V1
              have HBB19 := hidI hB19
              clear hB19
              have hme : m19 = N9 + 5 := by have h1 := HM19.out; have h2 := HN8.out; omega
              have HME := hidI hme
              clear hme
              have V3 := hidI (show St3 w (.cells #[.int .u8 kind, .int .u8 cal, .int .u8 a, .int .u8 b, .int .u8 c, .int .i64 n] 25 (0, 0)) (.cells #[.bool true, .int .i64 (fr : Int), .bool true] 46 (0, 0)) (.cells #[.int .u8 a, .int .u8 b, .int .u8 c] 5 (0, 0)) _ w1.heap.size _ m19 (BJ ++ (be8 n).take 5) _ w9 from by have V2' := V2; rw [HBT.out] at V2'; simpa [be8, List.append_assoc] using V2')
              clear V2
              go_wp2_with fail
              exact ⟨⟨5, ao19, cp19, m19, by omega, by go_num, rfl, HME.out, V3.out⟩, by simp [intOf]⟩
            · have HV := hidI (show enc8 [byteOf n 16] = [.int .u8 (n % 18446744073709551616 / 65536 % 256)] from by
                have h1 := Int.emod_nonneg (n / 2 ^ 16) (show (256 : Int) ≠ 0 by decide)
                have h2 := Int.emod_lt_of_pos (n / 2 ^ 16) (show (0 : Int) < 256 by decide)
                simp only [enc8, byteOf, List.map_cons, List.map_nil, u8_back h1 h2]
                congr 2
                omega)
              go_wp2_with (at_builtin; refine wpList_append_d _ rfl _ _ 49 rfl w.heap.size 5 i0 _ 1 1 Try.underlying49 hi hz0 hz1 hz2 rfl (by decide) _ _ _ rfl (V0.out.alloc _) ⟨wr.heap.size, 0, none⟩ 1 1 (enc8 [byteOf n 16]) rfl ?a20 ?b20 one_enc8 ?d20 ?e20 ?f20 ?_)
              case a20 => rfl
              case b20 => rw [HV.out]; first | exact fun _ _ h => h | exact news_at (block_new _ _)
              case d20 => unfold maxLen; omega
              case e20 => omega
              case f20 => have h9 := V0.out.lt; simp at h9 ⊢; omega
              intro ao20 cp20 w9 hown hfrom hgr
              obtain ⟨m20, hm20⟩ : ∃ x, x = N8 + 1 := ⟨_, rfl⟩
              rw [← hm20] at hown hfrom ⊢
              have hmb20 : m20 ≤ 400 := by omega
              have HM20 := hidI hm20
              clear hm20
              have V1 := hidI (St3.app V0.out _ (ns := [byteOf n 16]) hown (fun g hg => by simpa using hfrom g hg) hgr)
              clear hown hfrom hgr
              have V2 := V1.out
              obtain ⟨B20, hB20⟩ : ∃ x, x = BT ++ ([byteOf n 16]) := ⟨_, rfl⟩
              rw [← hB20] at V1
              have HBB20 := hidI hB20
              clear hB20
              have hme : m20 = N9 + 6 := by have h1 := HM20.out; have h2 := HN8.out; omega
              have HME := hidI hme
              clear hme
              have V3 := hidI (show St3 w (.cells #[.int .u8 kind, .int .u8 cal, .int .u8 a, .int .u8 b, .int .u8 c, .int .i64 n] 25 (0, 0)) (.cells #[.bool true, .int .i64 (fr : Int), .bool true] 46 (0, 0)) (.cells #[.int .u8 a, .int .u8 b, .int .u8 c] 5 (0, 0)) _ w1.heap.size _ m20 (BJ ++ (be8 n).take 6) _ w9 from by have V2' := V2; rw [HBT.out] at V2'; simpa [be8, List.append_assoc] using V2')
              clear V2
              go_wp2_with fail
              exact ⟨⟨6, ao20, cp20, m20, by omega, by go_num, rfl, HME.out, V3.out⟩, by simp [intOf]⟩
            · have HV := hidI (show enc8 [byteOf n 8] = [.int .u8 (n % 18446744073709551616 / 256 % 256)] from by
                have h1 := Int.emod_nonneg (n / 2 ^ 8) (show (256 : Int) ≠ 0 by decide)
                have h2 := Int.emod_lt_of_pos (n / 2 ^ 8) (show (0 : Int) < 256 by decide)
                simp only [enc8, byteOf, List.map_cons, List.map_nil, u8_back h1 h2]
                congr 2
                omega)
              go_wp2_with (at_builtin; refine wpList_append_d _ rfl _ _ 49 rfl w.heap.size 5 i0 _ 1 1 Try.underlying49 hi hz0 hz1 hz2 rfl (by decide) _ _ _ rfl (V0.out.alloc _) ⟨wr.heap.size, 0, none⟩ 1 1 (enc8 [byteOf n 8]) rfl ?a21 ?b21 one_enc8 ?d21 ?e21 ?f21 ?_)
              case a21 => rfl
              case b21 => rw [HV.out]; first | exact fun _ _ h => h | exact news_at (block_new _ _)
              case d21 => unfold maxLen; omega
              case e21 => omega
              case f21 => have h9 := V0.out.lt; simp at h9 ⊢; omega
              intro ao21 cp21 w9 hown hfrom hgr
              obtain ⟨m21, hm21⟩ : ∃ x, x = N8 + 1 := ⟨_, rfl⟩
              rw [← hm21] at hown hfrom ⊢
              have hmb21 : m21 ≤ 400 := by omega
              have HM21 := hidI hm21
              clear hm21
              have V1 := hidI (St3.app V0.out _ (ns := [byteOf n 8]) hown (fun g hg => by simpa using hfrom g hg) hgr)
              clear hown hfrom hgr
              have V2 := V1.out
              obtain ⟨B21, hB21⟩ : ∃ x, x = BT ++ ([byteOf n 8]) := ⟨_, rfl⟩
              rw [← hB21] at V1
              have HBB21 := hidI hB21
              clear hB21
              have hme : m21 = N9 + 7 := by have h1 := HM21.out; have h2 := HN8.out; omega
              have HME := hidI hme
              clear hme
              have V3 := hidI (show St3 w (.cells #[.int .u8 kind, .int .u8 cal, .int .u8 a, .int .u8 b, .int .u8 c, .int .i64 n] 25 (0, 0)) (.cells #[.bool true, .int .i64 (fr : Int), .bool true] 46 (0, 0)) (.cells #[.int .u8 a, .int .u8 b, .int .u8 c] 5 (0, 0)) _ w1.heap.size _ m21 (BJ ++ (be8 n).take 7) _ w9 from by have V2' := V2; rw [HBT.out] at V2'; simpa [be8, List.append_assoc] using V2')
              clear V2
              go_wp2_with fail
              exact ⟨⟨7, ao21, cp21, m21, by omega, by go_num, rfl, HME.out, V3.out⟩, by simp [intOf]⟩
            · have HV := hidI (show enc8 [byteOf n 0] = [.int .u8 (n % 18446744073709551616 % 256)] from by
                have h1 := Int.emod_nonneg (n / 2 ^ 0) (show (256 : Int) ≠ 0 by decide)
                have h2 := Int.emod_lt_of_pos (n / 2 ^ 0) (show (0 : Int) < 256 by decide)
                simp only [enc8, byteOf, List.map_cons, List.map_nil, u8_back h1 h2]
                congr 2
                omega)
              go_wp2_with (at_builtin; refine wpList_append_d _ rfl _ _ 49 rfl w.heap.size 5 i0 _ 1 1 Try.underlying49 hi hz0 hz1 hz2 rfl (by decide) _ _ _ rfl (V0.out.alloc _) ⟨wr.heap.size, 0, none⟩ 1 1 (enc8 [byteOf n 0]) rfl ?a22 ?b22 one_enc8 ?d22 ?e22 ?f22 ?_)
              case a22 => rfl
              case b22 => rw [HV.out]; first | exact fun _ _ h => h | exact news_at (block_new _ _)
              case d22 => unfold maxLen; omega
              case e22 => omega
              case f22 => have h9 := V0.out.lt; simp at h9 ⊢; omega
              intro ao22 cp22 w9 hown hfrom hgr
              obtain ⟨m22, hm22⟩ : ∃ x, x = N8 + 1 := ⟨_, rfl⟩
              rw [← hm22] at hown hfrom ⊢
              have hmb22 : m22 ≤ 400 := by omega
              have HM22 := hidI hm22
              clear hm22
              have V1 := hidI (St3.app V0.out _ (ns := [byteOf n 0]) hown (fun g hg => by simpa using hfrom g hg) hgr)
              clear hown hfrom hgr
              have V2 := V1.out
              obtain ⟨B22, hB22⟩ : ∃ x, x = BT ++ ([byteOf n 0]) := ⟨_, rfl⟩
              rw [← hB22] at V1
              have HBB22 := hidI hB22
              clear hB22
              have hme : m22 = N9 + 8 := by have h1 := HM22.out; have h2 := HN8.out; omega
              have HME := hidI hme
              clear hme
              have V3 := hidI (show St3 w (.cells #[.int .u8 kind, .int .u8 cal, .int .u8 a, .int .u8 b, .int .u8 c, .int .i64 n] 25 (0, 0)) (.cells #[.bool true, .int .i64 (fr : Int), .bool true] 46 (0, 0)) (.cells #[.int .u8 a, .int .u8 b, .int .u8 c] 5 (0, 0)) _ w1.heap.size _ m22 (BJ ++ (be8 n).take 8) _ w9 from by have V2' := V2; rw [HBT.out] at V2'; simpa [be8, List.append_assoc] using V2')
              clear V2
              go_wp2_with fail
              exact ⟨⟨8, ao22, cp22, m22, by omega, by go_num, rfl, HME.out, V3.out⟩, by simp [intOf]⟩
            · go_wp2_with fail
              go_ret
              exact BytesPost.mk (B := BT) (by unfold bytesS; rw [HF.out, HBT.out, HBJ.out, HBB11.out]; simp [bytesF, be8]) V0.out.1 V0.out.2.2.2.2.2

end Go.Proofs.Ytbfghkhfiflibaa
